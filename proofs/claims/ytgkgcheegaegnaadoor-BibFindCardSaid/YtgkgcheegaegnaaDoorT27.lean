/- Year of package bib and of its reference, at fields of any length. No condition but what a machine bears. -/
import Derived.Test.YtgkgcheegaegnaaDoorT14
import Derived.Test.YtgkgcheegaegnaaDoorT12

set_option linter.all false
namespace Go.Proofs.YtgkgcheegaegnaaDoor
open Go.RowKit

set_option maxRecDepth 100000 in
set_option maxHeartbeats 1600000 in
theorem ryear_wide (sk st : Bs) (vA vE vF : Value) (ps : List Pr) (w : World) (hv : Prs w vF ps) (hN : ps.length ≤ 1000000) (hl : ((fieldL ps [121, 101, 97, 114]).getD []).length ≤ 140737488355328) :
    Calls Tryd.prog 12 #[srcV sk st vA vE vF] w fun e w' => e = .returned (.int .i64 (yearL ((fieldL ps [121, 101, 97, 114]).getD []))) ∧ Kept w w' := by
  have HF := Lib.hid (fun w hv => rfield_any sk st vA vE vF ps [121, 101, 97, 114] w hv hN)
  unfold FieldPost at HF
  have HV := Lib.hid hv
  clear hv
  generalize (fieldL ps [121, 101, 97, 114]).isSome = ok at *
  generalize (fieldL ps [121, 101, 97, 114]).getD [] = v at *
  go_enter Tryd.func12, Tryd.ntmps12
  go_wp2_with fail
  refine (HF.out _ (HV.out.kept (kept_alloc _ _))).mono ?_
  rintro e w1 ⟨rfl, hk1⟩
  have HK := Lib.hid ((kept_alloc _ _).trans hk1)
  clear hk1
  go_wp2_with fail
  go_loop [5, 6] (fun n i => ∃ k : Nat, k ≤ v.length ∧ i = .int .i64 k ∧ n = .int .i64 (numL (v.take k)) ∧ (0 < k → v.length ≤ 4) ∧ Hid ((v.take k).all digB = true)) (fun _ i => v.length - (intOf i).toNat)
  case atStart => exact ⟨0, Nat.zero_le _, rfl, rfl, fun h => by omega, rfl⟩
  case round =>
    obtain ⟨k, hk, rfl, rfl, h4, HA⟩ := hrel
    by_cases hlt : k < v.length
    · have i0 := run_ix (P := Tryd.prog) (t := 9) Tryd.underlying9 v k hlt k rfl
      have h0 := at8_lo v k
      have h1 := at8_hi v k
      by_cases hle : v.length ≤ 4
      · have hnb : numL (v.take k) ≤ 9999 := num_bound _ (by simp; omega) HA.out
        by_cases hd : 48 ≤ at8 v k ∧ at8 v k ≤ 57
        · obtain ⟨ha, hn⟩ := all_step v k hlt HA.out hd
          have HA2 := Lib.hid ha
          have HN2 := Lib.hid hn
          generalize numL (v.take k) = nk at *
          generalize at8 v k = b at *
          obtain ⟨hd1, hd2⟩ := hd
          clear ha hn HA
          go_wp2_with fail
          go_round
          case rel => exact ⟨k + 1, by omega, by go_num, by rw [HN2.out]; congr 1; omega, fun _ => hle, HA2.out⟩
          case measure => simp [intOf]; omega
        · have HZ := Lib.hid (yearL_bad v k hlt hd)
          generalize numL (v.take k) = nk at *
          generalize at8 v k = b at *
          have hd' : b < 48 ∨ 57 < b := by omega
          clear hd
          rcases hd' with q | q
          all_goals
            go_wp2_with fail
            go_ret
            exact ⟨ret_int (by rw [HZ.out]), HK.out⟩
      · have HZ : Hid (yearL v = 0) := by show _ = _; unfold yearL; rw [if_neg (fun q => hle q.1)]
        generalize numL (v.take k) = nk at *
        generalize at8 v k = b at *
        go_wp2_with fail
        go_ret
        exact ⟨ret_int (by rw [HZ.out]), HK.out⟩
    · have HZ : Hid (yearL v = numL (v.take k)) := by
        show _ = _
        have h := HA.out
        rw [List.take_of_length_le (by omega)] at h ⊢
        by_cases q : 0 < k
        · exact yearL_good v (h4 q) h
        · exact yearL_good v (by omega) h
      generalize numL (v.take k) = nk at *
      go_wp2_with fail
      go_ret
      exact ⟨ret_int HZ.out.symm, HK.out⟩

set_option maxRecDepth 100000 in
set_option maxHeartbeats 3200000 in
theorem year_wide (sk st : Bs) (vA vE vF : Value) (ps : List Pr) (w : World) (hv : Prs w vF ps) (hN : ps.length ≤ 1000000) (hl : ((fieldL ps [121, 101, 97, 114]).getD []).length ≤ 140737488355328) :
    Calls Tryd.prog 11 #[srcV sk st vA vE vF] w fun e w' => e = .returned (.int .i64 (yearL ((fieldL ps [121, 101, 97, 114]).getD []))) ∧ Kept w w' := by
  have HF := Lib.hid (fun w hv => field_any sk st vA vE vF ps [121, 101, 97, 114] w hv hN)
  unfold FieldPost at HF
  have HV := Lib.hid hv
  have HNO : Hid ((fieldL ps [121, 101, 97, 114]).isSome = false → (fieldL ps [121, 101, 97, 114]).getD [] = []) := by
    intro h
    cases q : fieldL ps [121, 101, 97, 114] with
    | none => rfl
    | some x => rw [q] at h; cases h
  clear hv
  generalize (fieldL ps [121, 101, 97, 114]).isSome = ok at *
  generalize (fieldL ps [121, 101, 97, 114]).getD [] = v at *
  cases ok
  · have HZ : Hid (yearL v = 0) := by show _ = _; rw [HNO.out rfl]; rfl
    go_enter Tryd.func11, Tryd.ntmps11
    go_wp2_with fail
    refine (HF.out _ (HV.out.kept (kept_alloc _ _))).mono ?_
    rintro e w1 ⟨rfl, hk1⟩
    have HK := Lib.hid ((kept_alloc _ _).trans hk1)
    clear hk1
    go_wp2_with fail
    go_ret
    exact ⟨ret_int HZ.out.symm, HK.out⟩
  by_cases hle : v.length ≤ 4
  · go_enter Tryd.func11, Tryd.ntmps11
    go_wp2_with fail
    refine (HF.out _ (HV.out.kept (kept_alloc _ _))).mono ?_
    rintro e w1 ⟨rfl, hk1⟩
    have HK := Lib.hid ((kept_alloc _ _).trans hk1)
    clear hk1
    go_wp2_with fail
    go_loopw [5] (fun n wr => ∃ pos : Nat, pos ≤ v.length ∧ n = .int .i64 (numL (v.take pos)) ∧ wr.heap[w1.heap.size]? = some (.stringIter (bs v) pos) ∧ Kept w1 wr ∧ Hid ((v.take pos).all digB = true)) (fun _ wr => v.length - wr.iterPos w1.heap.size)
    case atStart => exact ⟨0, Nat.zero_le _, rfl, by have := World.iter_heap w1 (bs v) 0; simpa using this, kept_alloc _ _, rfl⟩
    case round =>
      obtain ⟨pos, hp, rfl, hit, hk, HA⟩ := hrel
      by_cases hlt : pos < v.length
      · have nx := fun ty => run_next_k (P := Tryd.prog) wr w1.heap.size (bs v) pos ty hit hlt
        have h0 := at8_lo v pos
        have hnb : numL (v.take pos) ≤ 9999 := num_bound _ (by simp; omega) HA.out
        by_cases hd : 48 ≤ at8 v pos ∧ at8 v pos ≤ 57
        · rw [dec_low v pos (by omega)] at nx
          simp only [show ((1 : Int).toNat) = 1 from rfl] at nx
          obtain ⟨ha, hn⟩ := all_step v pos hlt HA.out hd
          have HA2 := Lib.hid ha
          have HN2 := Lib.hid hn
          obtain ⟨q1, q2, q3, q4⟩ := iter_next w1 wr w1.heap.size v pos 1 hit hk (Nat.le_refl _)
          have HQ1 := Lib.hid q1
          have HQ2 := Lib.hid q2
          have HQ3 := Lib.hid q3
          have HQ4 := Lib.hid q4
          generalize wr.iterAt w1.heap.size (bs v) (pos + 1) = wq at *
          generalize numL (v.take pos) = nk at *
          generalize at8 v pos = b at *
          obtain ⟨hd1, hd2⟩ := hd
          clear ha hn HA q1 q2 q3 q4 hit hk
          go_wp2_with fail
          go_roundw
          case rel => exact ⟨pos + 1, by omega, by first | (rw [HN2.out]; done) | (rw [HN2.out]; congr 1; omega), HQ1.out, HQ2.out, HA2.out⟩
          case measure => rw [HQ3.out, HQ4.out]; omega
        · have HZ := Lib.hid (yearL_bad v pos hlt hd)
          have hcc : (dec (bs v) pos).1 < 48 ∨ 57 < (dec (bs v) pos).1 := by
            by_cases q : at8 v pos < 128
            · rw [dec_low v pos q]; simp only; omega
            · have := dec_hi v pos (by omega); omega
          have hcr := dec_bounds (bs v) pos hlt
          obtain ⟨q1, q2, q3, q4⟩ := iter_next w1 wr w1.heap.size v pos (dec (bs v) pos).2.toNat hit hk (Nat.le_refl _)
          have HQ2 := Lib.hid (HK.out.trans q2)
          generalize wr.iterAt w1.heap.size (bs v) (pos + (dec (bs v) pos).2.toNat) = wq at *
          generalize (dec (bs v) pos).1 = c at *
          obtain ⟨b1, b2, _⟩ := hcr
          generalize numL (v.take pos) = nk at *
          clear hd HA q1 q2 q3 q4 hit hk
          rcases hcc with q | q
          all_goals
            go_wp2_with fail
            go_ret
            exact ⟨ret_int HZ.out.symm, HQ2.out⟩
      · have nx := fun ty => run_next_k_end (P := Tryd.prog) wr w1.heap.size (bs v) pos ty hit (by simpa using hlt)
        have HZ : Hid (yearL v = numL (v.take pos)) := by
          show _ = _
          have h := HA.out
          rw [List.take_of_length_le (by omega)] at h ⊢
          exact yearL_good v hle h
        have HR := Lib.hid (HK.out.trans hk)
        generalize numL (v.take pos) = nk at *
        clear hk HA hit
        go_wp2_with fail
        go_ret
        exact ⟨ret_int HZ.out.symm, HR.out⟩
  · have HZ : Hid (yearL v = 0) := by show _ = _; unfold yearL; rw [if_neg (fun q => hle q.1)]
    go_enter Tryd.func11, Tryd.ntmps11
    go_wp2_with fail
    refine (HF.out _ (HV.out.kept (kept_alloc _ _))).mono ?_
    rintro e w1 ⟨rfl, hk1⟩
    have HK := Lib.hid ((kept_alloc _ _).trans hk1)
    clear hk1
    go_wp2_with fail
    go_ret
    exact ⟨ret_int HZ.out.symm, HK.out⟩
end Go.Proofs.YtgkgcheegaegnaaDoor

/- lines.Join. Conditions: lengths. -/
set_option linter.all false
namespace Go.Proofs.YtgkgcheegaegnaaDoor
open Go.RowKit

/-- Lines, each followed by a line feed. -/
def joinLn (xs : List Bs) : Bs := xs.flatMap fun x => x ++ [10]
theorem joinLn_snoc (xs : List Bs) (k : Nat) (x : Bs) (h : xs[k]? = some x) : joinLn (xs.take (k + 1)) = joinLn (xs.take k) ++ x ++ [10] := by
  obtain ⟨hk, rfl⟩ := List.getElem?_eq_some_iff.1 h
  unfold joinLn
  rw [List.take_succ_eq_append_getElem hk, List.flatMap_append]
  simp only [List.flatMap_cons, List.flatMap_nil, List.append_nil, List.append_assoc]
theorem joinLn_le (xs : List Bs) (k : Nat) : (joinLn (xs.take k)).length ≤ (joinLn xs).length := by
  unfold joinLn
  conv => rhs; rw [← List.take_append_drop k xs]
  rw [List.flatMap_append, List.length_append]; omega
theorem byteCells_app (a b : Bs) : Lib.byteCells (a ++ b) = Lib.byteCells a ++ Lib.byteCells b := by simp [Lib.byteCells]

set_option maxRecDepth 100000 in
set_option maxHeartbeats 1600000 in
theorem ljoin_any (v : Value) (xs : List Bs) (w : World) (hv : Strs w v xs) (hN : xs.length ≤ 1000000) (hl : (joinLn xs).length ≤ 100000000) :
    Calls Tryd.prog 26 #[v] w fun e w' => e = .returned (.string (bs (joinLn xs))) ∧ Kept w w' := by
  have HV := Lib.hid hv
  obtain ⟨a, c, rfl, hc, h3⟩ := hv
  clear h3
  go_enter Tryd.func26, Tryd.ntmps26
  go_wp2_with fail
  simp only [mk_bs]
  go_loopw [8] (fun i wr => ∃ k : Nat, k ≤ xs.length ∧ i = .int .i64 k ∧ Lib.IsBuilder 70 5 w.heap.size w.heap.size (Lib.byteCells (joinLn (xs.take k))) wr ∧ Kept w wr) (fun i _ => xs.length - (intOf i).toNat)
  case atStart =>
    refine ⟨0, Nat.zero_le _, rfl, .inl ⟨Nat.le_refl _, .slice none 0 0, ?_, World.ownsRow_nil _ _ _ _, by simp [Value.ownBlock]⟩, kept_alloc _ _⟩
    exact heap_alloc_new w _
  case round =>
    obtain ⟨k, hk, rfl, hB, hkr⟩ := hrel
    have HB := Lib.hid hB
    have HR := Lib.hid hkr
    clear hB
    by_cases hlt : k < xs.length
    · obtain ⟨x, hx⟩ : ∃ x, xs[k]? = some x := ⟨_, List.getElem?_eq_getElem hlt⟩
      obtain ⟨a', c', hv', hc', h3⟩ := HV.out.kept hkr
      obtain ⟨rfl, hdead, rfl⟩ := Value.slice.inj hv'
      clear hdead hc'
      obtain ⟨g, o, rfl, hg, hcc⟩ := h3 (by omega)
      have c0 := hcc k x hx
      have HN := Lib.hid (joinLn_snoc xs k x hx)
      have hle := joinLn_le xs k
      have hle2 := joinLn_le xs (k + 1)
      rw [HN.out] at hle2
      simp only [List.length_append, List.length_cons, List.length_nil] at hle2
      have hsz := hkr.size
      clear hkr hcc h3 hv' hx
      generalize joinLn (xs.take k) = jk at *
      go_wp2_with fail
      refine (bld_string w.heap.size w.heap.size _ x _ HB.out (by rw [Lib.byteCells_length]; omega) hsz).mono ?_
      rintro e w1 ⟨rfl, hb1, hbe1⟩
      have HB1 : Hid (Lib.IsBuilder 70 5 w.heap.size w.heap.size (Lib.byteCells jk ++ Lib.byteCells x) w1) := .inr hb1
      have HR1 := Lib.hid (HR.out.trans' hbe1)
      have hsz1 := HR1.out.size
      clear hb1 hbe1 c0 hg
      go_wp2_with fail
      refine (bld_byte w.heap.size w.heap.size _ 10 _ HB1.out (by rw [List.length_append, Lib.byteCells_length, Lib.byteCells_length]; omega) hsz1).mono ?_
      rintro e w2 ⟨rfl, hb2, hbe2⟩
      have HB2 : Hid (Lib.IsBuilder 70 5 w.heap.size w.heap.size (Lib.byteCells (jk ++ x ++ [10])) w2) := by
        refine .inr ?_
        rw [byteCells_app, byteCells_app]
        exact hb2
      have HR2 := Lib.hid (HR1.out.trans' hbe2)
      clear hb2 hbe2
      go_wp2_with fail
      go_roundw
      case rel => exact ⟨k + 1, by omega, by go_num, by rw [HN.out]; exact HB2.out, HR2.out⟩
      case measure => simp [intOf]; omega
    · have hsz := hkr.size
      rw [List.take_of_length_le (by omega)] at HB
      clear hkr
      obtain ⟨j, HJ⟩ : ∃ j, Hid (joinLn xs = j) := ⟨_, rfl⟩
      rw [HJ.out] at HB
      go_wp2_with fail
      refine (Tryd.Builder_String_any w.heap.size w.heap.size j _ HB.out hsz).mono ?_
      rintro e w1 ⟨rfl, hb1⟩
      have HR1 := Lib.hid (HR.out.trans' hb1)
      clear hb1
      go_wp2_with fail
      go_ret
      exact ⟨ret_bs HJ.out.symm, HR1.out⟩
end Go.Proofs.YtgkgcheegaegnaaDoor
