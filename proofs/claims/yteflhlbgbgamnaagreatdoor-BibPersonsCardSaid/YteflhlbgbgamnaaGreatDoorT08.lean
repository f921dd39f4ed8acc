/- A range over a string, with whatever memory beside its iterator. No condition. -/
import Derived.Test.YteflhlbgbgamnaaGreatDoorT03
import Derived.Test.YteflhlbgbgamnaaGreatDoorT07
import Derived.Test.YteflhlbgbgamnaaGreatDoorT05
import Derived.Lib.OthersKept

set_option linter.all false
namespace Go.Proofs.YteflhlbgbgamnaaGreatDoor
open Go.RowKit

theorem run_next_k {P : Program} (w : World) (k : Nat) (s : ByteArray) (pos : Nat) (ty : TypeId) (hk : w.heap[k]? = some (.stringIter s pos)) (h : pos < s.size) :
    (Instr.next (.pointer (some ⟨k, 0, none⟩)) true ty).run P w = .ok (.tuple #[.bool true, .int .i64 pos, .int .i32 (dec s pos).1]) (w.iterAt k s (pos + (dec s pos).2.toNat)) := by
  rw [dec_eq]
  simp only [Instr.next, getObj, setObj, Sem.run_bind, Sem.run, hk, Result.andThen, h, if_true, World.iterAt, Int.toNat_natCast]
  simp [goInt, Sem.run, hk]
theorem run_next_k_end {P : Program} (w : World) (k : Nat) (s : ByteArray) (pos : Nat) (ty : TypeId) (hk : w.heap[k]? = some (.stringIter s pos)) (h : ¬ pos < s.size) :
    (Instr.next (.pointer (some ⟨k, 0, none⟩)) true ty).run P w = .ok (.tuple #[.bool false]) w := by
  simp [Instr.next, getObj, Sem.run, hk, h]
end Go.Proofs.YteflhlbgbgamnaaGreatDoor

/- Field and Year of package bib and of its reference. Conditions: lengths. -/
set_option linter.all false
namespace Go.Proofs.YteflhlbgbgamnaaGreatDoor
open Go.RowKit

abbrev srcV (k t : Bs) (vA vE vF : Value) : Value := .agg #[.string (bs k), .string (bs t), vA, vE, vF]
theorem fieldL_none (ps : List Pr) (k : Bs) (h : ∀ q ∈ ps, (q.1 == k) = false) : fieldL ps k = none := by
  unfold fieldL
  rw [List.find?_eq_none.2 (fun q hq => by simp [h q hq])]; rfl
theorem fieldL_at (ps : List Pr) (k : Bs) (n : Nat) (q : Pr) (hq : ps[n]? = some q) (h : ∀ x ∈ ps.take n, (x.1 == k) = false) (he : (q.1 == k) = true) : fieldL ps k = some q.2 := by
  unfold fieldL
  obtain ⟨hn, rfl⟩ := List.getElem?_eq_some_iff.1 hq
  have e : ps = ps.take n ++ ps[n] :: ps.drop (n + 1) := by
    rw [← List.drop_eq_getElem_cons hn, List.take_append_drop]
  conv => lhs; rw [e]
  rw [List.find?_append, List.find?_eq_none.2 (fun q hq => by simp [h q hq]), List.find?_cons_of_pos (by simpa using he)]
  rfl
def FieldPost (o : Option Bs) (w : World) (e : Ending) (w' : World) : Prop := e = .returned (.tuple #[.string (bs (o.getD [])), .bool o.isSome]) ∧ Kept w w'

set_option maxRecDepth 100000 in
set_option maxHeartbeats 1600000 in
theorem field_any (sk st : Bs) (vA vE vF : Value) (ps : List Pr) (k : Bs) (w : World) (hv : Prs w vF ps) (hN : ps.length ≤ 1100000) :
    Calls Tryz.prog 38 #[srcV sk st vA vE vF, .string (bs k)] w (FieldPost (fieldL ps k) w) := by
  have HV := Lib.hid hv
  have HA := Lib.hid (fieldL_at ps k)
  have HNO := Lib.hid (fieldL_none ps k)
  obtain ⟨o, HO⟩ : ∃ o, Hid (fieldL ps k = o) := ⟨_, rfl⟩
  rw [HO.out] at HA HNO ⊢
  obtain ⟨a, c, rfl, hc, h3⟩ := hv
  clear h3
  unfold FieldPost
  go_enter Tryz.func38, Tryz.ntmps38
  go_wp2_with fail
  simp only [mk_bs]
  go_loopw [11] (fun i wr => ∃ n : Nat, n ≤ ps.length ∧ i = .int .i64 n ∧ Hid (∀ x ∈ ps.take n, (x.1 == k) = false) ∧ Kept w wr) (fun i _ => ps.length - (intOf i).toNat)
  case atStart => exact ⟨0, Nat.zero_le _, rfl, fun x h => by simp at h, kept_alloc _ _⟩
  case round =>
    obtain ⟨n, hn, rfl, HN, hkr⟩ := hrel
    by_cases hlt : n < ps.length
    · obtain ⟨q, hx⟩ : ∃ x, ps[n]? = some x := ⟨_, List.getElem?_eq_getElem hlt⟩
      obtain ⟨a', c', hv', hc', h3⟩ := HV.out.kept hkr
      obtain ⟨rfl, hdead, rfl⟩ := Value.slice.inj hv'
      clear hdead
      obtain ⟨g, o2, rfl, hg, hcc⟩ := h3 (by omega)
      obtain ⟨c0, c1⟩ := hcc n q hx
      have HR := Lib.hid hkr
      cases hxk : (q.1 == k)
      · have HS : Hid (∀ x ∈ ps.take (n + 1), (x.1 == k) = false) := by
          intro x hxm
          obtain ⟨hk', rfl⟩ := List.getElem?_eq_some_iff.1 hx
          rw [List.take_succ_eq_append_getElem hk'] at hxm
          rcases List.mem_append.1 hxm with h | h
          · exact HN.out x h
          · simp at h; subst h; exact hxk
        clear hkr hcc h3 hv' hc' hx HN
        obtain ⟨x, y⟩ := q
        simp only at c0 c1 hxk
        go_wp2_with fail
        go_roundw
        case rel => exact ⟨n + 1, by omega, by go_num, HS.out, HR.out.trans (kept_alloc _ _)⟩
        case measure => simp [intOf]; omega
      · have HF := Lib.hid (HA.out n q hx HN.out hxk)
        clear hkr hcc h3 hv' hc' hx HN
        obtain ⟨x, y⟩ := q
        simp only at c0 c1 hxk HF
        go_wp2_with fail
        go_ret2
        exact ⟨by rw [HF.out]; rfl, HR.out.trans (kept_alloc _ _)⟩
    · have HF : Hid (o = none) := HNO.out (fun q hq => by
        have h := HN.out
        rw [List.take_of_length_le (by omega)] at h
        exact h q hq)
      have HR := Lib.hid hkr
      clear hkr HN
      go_wp2_with fail
      go_ret2
      exact ⟨by rw [HF.out]; rfl, HR.out⟩

set_option maxRecDepth 100000 in
set_option maxHeartbeats 1600000 in
theorem rfield_any (sk st : Bs) (vA vE vF : Value) (ps : List Pr) (k : Bs) (w : World) (hv : Prs w vF ps) (hN : ps.length ≤ 1100000) :
    Calls Tryz.prog 46 #[srcV sk st vA vE vF, .string (bs k)] w (FieldPost (fieldL ps k) w) := by
  have HV := Lib.hid hv
  have HA := Lib.hid (fieldL_at ps k)
  have HNO := Lib.hid (fieldL_none ps k)
  obtain ⟨o, HO⟩ : ∃ o, Hid (fieldL ps k = o) := ⟨_, rfl⟩
  rw [HO.out] at HA HNO ⊢
  obtain ⟨a, c, rfl, hc, h3⟩ := hv
  clear h3
  unfold FieldPost
  go_enter Tryz.func46, Tryz.ntmps46
  go_wp2_with fail
  simp only [mk_bs]
  go_loopw [11] (fun i wr => ∃ n : Nat, n ≤ ps.length ∧ i = .int .i64 n ∧ Hid (∀ x ∈ ps.take n, (x.1 == k) = false) ∧ Kept w wr) (fun i _ => ps.length - (intOf i).toNat)
  case atStart => exact ⟨0, Nat.zero_le _, rfl, fun x h => by simp at h, kept_alloc _ _⟩
  case round =>
    obtain ⟨n, hn, rfl, HN, hkr⟩ := hrel
    by_cases hlt : n < ps.length
    · obtain ⟨q, hx⟩ : ∃ x, ps[n]? = some x := ⟨_, List.getElem?_eq_getElem hlt⟩
      obtain ⟨a', c', hv', hc', h3⟩ := HV.out.kept hkr
      obtain ⟨rfl, hdead, rfl⟩ := Value.slice.inj hv'
      clear hdead
      obtain ⟨g, o2, rfl, hg, hcc⟩ := h3 (by omega)
      obtain ⟨c0, c1⟩ := hcc n q hx
      have HR := Lib.hid hkr
      cases hxk : (q.1 == k)
      · have HS : Hid (∀ x ∈ ps.take (n + 1), (x.1 == k) = false) := by
          intro x hxm
          obtain ⟨hk', rfl⟩ := List.getElem?_eq_some_iff.1 hx
          rw [List.take_succ_eq_append_getElem hk'] at hxm
          rcases List.mem_append.1 hxm with h | h
          · exact HN.out x h
          · simp at h; subst h; exact hxk
        clear hkr hcc h3 hv' hc' hx HN
        obtain ⟨x, y⟩ := q
        simp only at c0 c1 hxk
        go_wp2_with fail
        go_roundw
        case rel => exact ⟨n + 1, by omega, by go_num, HS.out, HR.out.trans (kept_alloc _ _)⟩
        case measure => simp [intOf]; omega
      · have HF := Lib.hid (HA.out n q hx HN.out hxk)
        clear hkr hcc h3 hv' hc' hx HN
        obtain ⟨x, y⟩ := q
        simp only at c0 c1 hxk HF
        go_wp2_with fail
        go_ret2
        exact ⟨by rw [HF.out]; rfl, HR.out.trans (kept_alloc _ _)⟩
    · have HF : Hid (o = none) := HNO.out (fun q hq => by
        have h := HN.out
        rw [List.take_of_length_le (by omega)] at h
        exact h q hq)
      have HR := Lib.hid hkr
      clear hkr HN
      go_wp2_with fail
      go_ret2
      exact ⟨by rw [HF.out]; rfl, HR.out⟩

end Go.Proofs.YteflhlbgbgamnaaGreatDoor
