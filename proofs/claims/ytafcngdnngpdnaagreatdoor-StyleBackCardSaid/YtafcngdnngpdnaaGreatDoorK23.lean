/- Field and Year of package bib and of its reference. Conditions: lengths. -/
import Derived.Test.YtafcngdnngpdnaaGreatDoorK04
import Derived.Test.YtafcngdnngpdnaaGreatDoorK06
import Derived.Test.YtafcngdnngpdnaaGreatDoorK02
import Derived.Test.YtafcngdnngpdnaaGreatDoorK15
import Derived.Test.YtafcngdnngpdnaaGreatDoorK18
import Derived.Test.YtafcngdnngpdnaaGreatDoorK22

set_option linter.all false
namespace Go.Proofs.YtafcngdnngpdnaaGreatDoor
open Go.RowKit

abbrev srcV (k t : Bs) (vA vE vF : Value) : Value := .agg #[.string (bs k), .string (bs t), vA, vE, vF]
theorem fieldL_none (ps : List Pr) (k : Bs) (h : ∀ q ∈ ps, (q.1 == k) = false) : fieldL ps k = none := by
  unfold fieldL
  rw [List.find?_eq_none.2 (fun q hq => by simp [h q hq])]; rfl
theorem fieldL_at (ps : List Pr) (k : Bs) (n : Nat) (q : Pr) (hq : ps[n]? = some q) (h : ∀ x ∈ ps.take n, (x.1 == k) = false) (he : (q.1 == k) = true) : fieldL ps k = some q.2 := by
  unfold fieldL
  obtain ⟨hn, rfl⟩ := List.getElem?_eq_some_iff.1 hq
  have e : ps = ps.take n ++ ps[n] :: ps.drop (n + 1) := by
    rw [← List.drop_eq_getElem_cons hn, List.take_append_drop]
  conv => lhs; rw [e]
  rw [List.find?_append, List.find?_eq_none.2 (fun q hq => by simp [h q hq]), List.find?_cons_of_pos (by simpa using he)]
  rfl
def FieldPost (o : Option Bs) (w : World) (e : Ending) (w' : World) : Prop := e = .returned (.tuple #[.string (bs (o.getD [])), .bool o.isSome]) ∧ Kept w w'

set_option maxRecDepth 100000 in
set_option maxHeartbeats 1600000 in
theorem field_any (sk st : Bs) (vA vE vF : Value) (ps : List Pr) (k : Bs) (w : World) (hv : Prs w vF ps) (hN : ps.length ≤ 1100000) :
    Calls Tryz.prog 33 #[srcV sk st vA vE vF, .string (bs k)] w (FieldPost (fieldL ps k) w) := by
  have HV := Lib.hid hv
  have HA := Lib.hid (fieldL_at ps k)
  have HNO := Lib.hid (fieldL_none ps k)
  obtain ⟨o, HO⟩ : ∃ o, Hid (fieldL ps k = o) := ⟨_, rfl⟩
  rw [HO.out] at HA HNO ⊢
  obtain ⟨a, c, rfl, hc, h3⟩ := hv
  clear h3
  unfold FieldPost
  go_enter Tryz.func33, Tryz.ntmps33
  go_wp2_with fail
  simp only [mk_bs]
  go_loopw [11] (fun i wr => ∃ n : Nat, n ≤ ps.length ∧ i = .int .i64 n ∧ Hid (∀ x ∈ ps.take n, (x.1 == k) = false) ∧ Kept w wr) (fun i _ => ps.length - (intOf i).toNat)
  case atStart => exact ⟨0, Nat.zero_le _, rfl, fun x h => by simp at h, kept_alloc _ _⟩
  case round =>
    obtain ⟨n, hn, rfl, HN, hkr⟩ := hrel
    by_cases hlt : n < ps.length
    · obtain ⟨q, hx⟩ : ∃ x, ps[n]? = some x := ⟨_, List.getElem?_eq_getElem hlt⟩
      obtain ⟨a', c', hv', hc', h3⟩ := HV.out.kept hkr
      obtain ⟨rfl, hdead, rfl⟩ := Value.slice.inj hv'
      clear hdead
      obtain ⟨g, o2, rfl, hg, hcc⟩ := h3 (by omega)
      obtain ⟨c0, c1⟩ := hcc n q hx
      have HR := Lib.hid hkr
      cases hxk : (q.1 == k)
      · have HS : Hid (∀ x ∈ ps.take (n + 1), (x.1 == k) = false) := by
          intro x hxm
          obtain ⟨hk', rfl⟩ := List.getElem?_eq_some_iff.1 hx
          rw [List.take_succ_eq_append_getElem hk'] at hxm
          rcases List.mem_append.1 hxm with h | h
          · exact HN.out x h
          · simp at h; subst h; exact hxk
        clear hkr hcc h3 hv' hc' hx HN
        obtain ⟨x, y⟩ := q
        simp only at c0 c1 hxk
        go_wp2_with fail
        go_roundw
        case rel => exact ⟨n + 1, by omega, by go_num, HS.out, HR.out.trans (kept_alloc _ _)⟩
        case measure => simp [intOf]; omega
      · have HF := Lib.hid (HA.out n q hx HN.out hxk)
        clear hkr hcc h3 hv' hc' hx HN
        obtain ⟨x, y⟩ := q
        simp only at c0 c1 hxk HF
        go_wp2_with fail
        go_ret2
        exact ⟨by rw [HF.out]; rfl, HR.out.trans (kept_alloc _ _)⟩
    · have HF : Hid (o = none) := HNO.out (fun q hq => by
        have h := HN.out
        rw [List.take_of_length_le (by omega)] at h
        exact h q hq)
      have HR := Lib.hid hkr
      clear hkr HN
      go_wp2_with fail
      go_ret2
      exact ⟨by rw [HF.out]; rfl, HR.out⟩

end Go.Proofs.YtafcngdnngpdnaaGreatDoor

/- Year and isName of package bib; the reference's Year. Conditions: lengths. -/
set_option linter.all false
namespace Go.Proofs.YtafcngdnngpdnaaGreatDoor
open Go.RowKit

theorem dec_low (l : Bs) (i : Nat) (h : at8 l i < 128) : dec (bs l) i = (at8 l i, 1) := by unfold dec; rw [byteAt_bs, if_pos h]
theorem dec_hi (l : Bs) (i : Nat) (h : 128 ≤ at8 l i) : 128 ≤ (dec (bs l) i).1 := by
  have m0 : ∀ k a b, ¬ moreOf (bs l) k a b < 0 → 128 ≤ a → a - 128 ≤ moreOf (bs l) k a b ∧ moreOf (bs l) k a b ≤ b - 128 := by
    intro k a b q hl
    obtain ⟨_, h1, h2, h3⟩ := more_yes (s := bs l) (i := k) (l := a) (h := b) (by omega)
    omega
  have h : 128 ≤ byteAt (bs l) i := h
  unfold dec
  rw [if_neg (by omega)]
  split
  · split
    · have := m0 (i + 1) 128 191 (by omega) (by omega)
      simp only; omega
    · simp only; omega
  split
  · unfold three
    split
    · simp only; omega
    · rename_i q
      simp only [not_or] at q
      have d : 128 ≤ low3 (byteAt (bs l) i) ∧ (byteAt (bs l) i = 224 → low3 (byteAt (bs l) i) = 160) := by unfold low3; split <;> omega
      have a := m0 (i + 1) (low3 (byteAt (bs l) i)) (high3 (byteAt (bs l) i)) q.1 d.1
      have b := m0 (i + 2) 128 191 q.2 (by omega)
      simp only; omega
  split
  · unfold four
    split
    · simp only; omega
    · rename_i q
      simp only [not_or] at q
      have d : 128 ≤ low4 (byteAt (bs l) i) ∧ (byteAt (bs l) i = 240 → low4 (byteAt (bs l) i) = 144) := by unfold low4; split <;> omega
      have a := m0 (i + 1) (low4 (byteAt (bs l) i)) (high4 (byteAt (bs l) i)) q.1 d.1
      have b := m0 (i + 2) 128 191 q.2.1 (by omega)
      have b2 := m0 (i + 3) 128 191 q.2.2 (by omega)
      simp only; omega
  · simp only; omega

def digB (b : UInt8) : Bool := decide (48 ≤ b.toNat) && decide (b.toNat ≤ 57)
def numL (v : Bs) : Nat := v.foldl (fun n b => 10 * n + (b.toNat - 48)) 0
def yearL (v : Bs) : Int := if v.length ≤ 4 ∧ v.all digB = true then numL v else 0
theorem numL_snoc (v : Bs) (b : UInt8) : numL (v ++ [b]) = 10 * numL v + (b.toNat - 48) := by simp [numL]
theorem numL_lt (v : Bs) (h : v.all digB = true) : numL v < 10 ^ v.length := by
  refine snoc_ind (P := fun v => v.all digB = true → numL v < 10 ^ v.length) ?_ ?_ v h
  · intro _; simp [numL]
  · intro l b ih h
    rw [List.all_append, Bool.and_eq_true] at h
    have h1 := ih h.1
    have h2 : b.toNat ≤ 57 := by have := h.2; simp [digB] at this; omega
    rw [numL_snoc, List.length_append, List.length_cons, List.length_nil, Nat.pow_succ]
    omega
theorem dig_at (l : Bs) (i : Nat) (h : i < l.length) : digB l[i] = true ↔ 48 ≤ at8 l i ∧ at8 l i ≤ 57 := by
  rw [at8_get l i h]; simp [digB]; omega
theorem yearL_bad (v : Bs) (i : Nat) (h : i < v.length) (hb : ¬ (48 ≤ at8 v i ∧ at8 v i ≤ 57)) : yearL v = 0 := by
  unfold yearL
  rw [if_neg]
  rintro ⟨_, q⟩
  rw [List.all_eq_true] at q
  exact hb ((dig_at v i h).1 (q _ (List.getElem_mem h)))
theorem yearL_good (v : Bs) (h4 : v.length ≤ 4) (h : v.all digB = true) : yearL v = numL v := by unfold yearL; rw [if_pos ⟨h4, h⟩]
theorem num_bound (v : Bs) (h4 : v.length ≤ 4) (h : v.all digB = true) : numL v ≤ 9999 := by
  have h1 := numL_lt v h
  have h2 : 10 ^ v.length ≤ 10 ^ 4 := Nat.pow_le_pow_right (by omega) h4
  omega
theorem all_step (v : Bs) (k : Nat) (hk : k < v.length) (h : (v.take k).all digB = true) (hd : 48 ≤ at8 v k ∧ at8 v k ≤ 57) : (v.take (k + 1)).all digB = true ∧ (numL (v.take (k + 1)) : Int) = 10 * numL (v.take k) + (at8 v k - 48) := by
  rw [take_next v k hk, List.all_append, h]
  refine ⟨by simp [(dig_at v k hk).2 hd], ?_⟩
  rw [numL_snoc, at8_get v k hk]
  have : 48 ≤ v[k].toNat := by rw [at8_get v k hk] at hd; omega
  omega

/-- One step of a range over a text. -/
theorem iter_next (w wr : World) (g : Nat) (v : Bs) (pos n : Nat) (hit : wr.heap[g]? = some (.stringIter (bs v) pos)) (hk : Kept w wr) (hg : w.heap.size ≤ g) :
    (wr.iterAt g (bs v) (pos + n)).heap[g]? = some (.stringIter (bs v) (pos + n)) ∧ Kept w (wr.iterAt g (bs v) (pos + n)) ∧ (wr.iterAt g (bs v) (pos + n)).iterPos g = pos + n ∧ wr.iterPos g = pos := by
  have h1 := Lib.iterAt_heap wr g (bs v) pos (pos + n) hit
  exact ⟨h1, Lib.below_iterAt hk hg (bs v) _, by simp [World.iterPos, h1], by simp [World.iterPos, hit]⟩
theorem year_field (ps : List Pr) : fieldL ps [121, 101, 97, 114] = none → (fieldL ps [121, 101, 97, 114]).getD [] = [] := fun h => by rw [h]; rfl

set_option maxRecDepth 100000 in
set_option maxHeartbeats 3200000 in
theorem year_any (sk st : Bs) (vA vE vF : Value) (ps : List Pr) (w : World) (hv : Prs w vF ps) (hN : ps.length ≤ 1100000) (hl : ((fieldL ps [121, 101, 97, 114]).getD []).length ≤ 1100000) :
    Calls Tryz.prog 55 #[srcV sk st vA vE vF] w fun e w' => e = .returned (.int .i64 (yearL ((fieldL ps [121, 101, 97, 114]).getD []))) ∧ Kept w w' := by
  have HF := Lib.hid (fun w hv => field_any sk st vA vE vF ps [121, 101, 97, 114] w hv hN)
  unfold FieldPost at HF
  have HV := Lib.hid hv
  have HNO : Hid ((fieldL ps [121, 101, 97, 114]).isSome = false → (fieldL ps [121, 101, 97, 114]).getD [] = []) := by
    intro h
    cases q : fieldL ps [121, 101, 97, 114] with
    | none => rfl
    | some x => rw [q] at h; cases h
  clear hv
  generalize (fieldL ps [121, 101, 97, 114]).isSome = ok at *
  generalize (fieldL ps [121, 101, 97, 114]).getD [] = v at *
  cases ok
  · have HZ : Hid (yearL v = 0) := by show _ = _; rw [HNO.out rfl]; rfl
    go_enter Tryz.func55, Tryz.ntmps55
    go_wp2_with fail
    refine (HF.out _ (HV.out.kept (kept_alloc _ _))).mono ?_
    rintro e w1 ⟨rfl, hk1⟩
    have HK := Lib.hid ((kept_alloc _ _).trans hk1)
    clear hk1
    go_wp2_with fail
    go_ret
    exact ⟨ret_int HZ.out.symm, HK.out⟩
  by_cases hle : v.length ≤ 4
  · go_enter Tryz.func55, Tryz.ntmps55
    go_wp2_with fail
    refine (HF.out _ (HV.out.kept (kept_alloc _ _))).mono ?_
    rintro e w1 ⟨rfl, hk1⟩
    have HK := Lib.hid ((kept_alloc _ _).trans hk1)
    clear hk1
    go_wp2_with fail
    go_loopw [5] (fun n wr => ∃ pos : Nat, pos ≤ v.length ∧ n = .int .i64 (numL (v.take pos)) ∧ wr.heap[w1.heap.size]? = some (.stringIter (bs v) pos) ∧ Kept w1 wr ∧ Hid ((v.take pos).all digB = true)) (fun _ wr => v.length - wr.iterPos w1.heap.size)
    case atStart => exact ⟨0, Nat.zero_le _, rfl, by have := World.iter_heap w1 (bs v) 0; simpa using this, kept_alloc _ _, rfl⟩
    case round =>
      obtain ⟨pos, hp, rfl, hit, hk, HA⟩ := hrel
      by_cases hlt : pos < v.length
      · have nx := fun ty => run_next_k (P := Tryz.prog) wr w1.heap.size (bs v) pos ty hit hlt
        have h0 := at8_lo v pos
        have hnb : numL (v.take pos) ≤ 9999 := num_bound _ (by simp; omega) HA.out
        by_cases hd : 48 ≤ at8 v pos ∧ at8 v pos ≤ 57
        · rw [dec_low v pos (by omega)] at nx
          simp only [show ((1 : Int).toNat) = 1 from rfl] at nx
          obtain ⟨ha, hn⟩ := all_step v pos hlt HA.out hd
          have HA2 := Lib.hid ha
          have HN2 := Lib.hid hn
          obtain ⟨q1, q2, q3, q4⟩ := iter_next w1 wr w1.heap.size v pos 1 hit hk (Nat.le_refl _)
          have HQ1 := Lib.hid q1
          have HQ2 := Lib.hid q2
          have HQ3 := Lib.hid q3
          have HQ4 := Lib.hid q4
          generalize wr.iterAt w1.heap.size (bs v) (pos + 1) = wq at *
          generalize numL (v.take pos) = nk at *
          generalize at8 v pos = b at *
          obtain ⟨hd1, hd2⟩ := hd
          clear ha hn HA q1 q2 q3 q4 hit hk
          go_wp2_with fail
          go_roundw
          case rel => exact ⟨pos + 1, by omega, by first | (rw [HN2.out]; done) | (rw [HN2.out]; congr 1; omega), HQ1.out, HQ2.out, HA2.out⟩
          case measure => rw [HQ3.out, HQ4.out]; omega
        · have HZ := Lib.hid (yearL_bad v pos hlt hd)
          have hcc : (dec (bs v) pos).1 < 48 ∨ 57 < (dec (bs v) pos).1 := by
            by_cases q : at8 v pos < 128
            · rw [dec_low v pos q]; simp only; omega
            · have := dec_hi v pos (by omega); omega
          have hcr := dec_bounds (bs v) pos hlt
          obtain ⟨q1, q2, q3, q4⟩ := iter_next w1 wr w1.heap.size v pos (dec (bs v) pos).2.toNat hit hk (Nat.le_refl _)
          have HQ2 := Lib.hid (HK.out.trans q2)
          generalize wr.iterAt w1.heap.size (bs v) (pos + (dec (bs v) pos).2.toNat) = wq at *
          generalize (dec (bs v) pos).1 = c at *
          obtain ⟨b1, b2, _⟩ := hcr
          generalize numL (v.take pos) = nk at *
          clear hd HA q1 q2 q3 q4 hit hk
          rcases hcc with q | q
          all_goals
            go_wp2_with fail
            go_ret
            exact ⟨ret_int HZ.out.symm, HQ2.out⟩
      · have nx := fun ty => run_next_k_end (P := Tryz.prog) wr w1.heap.size (bs v) pos ty hit (by simpa using hlt)
        have HZ : Hid (yearL v = numL (v.take pos)) := by
          show _ = _
          have h := HA.out
          rw [List.take_of_length_le (by omega)] at h ⊢
          exact yearL_good v hle h
        have HR := Lib.hid (HK.out.trans hk)
        generalize numL (v.take pos) = nk at *
        clear hk HA hit
        go_wp2_with fail
        go_ret
        exact ⟨ret_int HZ.out.symm, HR.out⟩
  · have HZ : Hid (yearL v = 0) := by show _ = _; unfold yearL; rw [if_neg (fun q => hle q.1)]
    go_enter Tryz.func55, Tryz.ntmps55
    go_wp2_with fail
    refine (HF.out _ (HV.out.kept (kept_alloc _ _))).mono ?_
    rintro e w1 ⟨rfl, hk1⟩
    have HK := Lib.hid ((kept_alloc _ _).trans hk1)
    clear hk1
    go_wp2_with fail
    go_ret
    exact ⟨ret_int HZ.out.symm, HK.out⟩
end Go.Proofs.YtafcngdnngpdnaaGreatDoor

/- What a template is filled with, in plain Lean. No condition. -/
set_option linter.all false
namespace Go.Proofs.YtafcngdnngpdnaaGreatDoor
open Go.RowKit

def kEditor : Bs := [101, 100, 105, 116, 111, 114]
def kAuthors : Bs := [97, 117, 116, 104, 111, 114, 115]
def kEditors : Bs := [101, 100, 105, 116, 111, 114, 115]
def kType : Bs := [116, 121, 112, 101]
/-- A source, and what else a template is filled with. -/
structure FilT where
  key : Bs
  type : Bs
  author : List P4
  editor : List P4
  fields : List Pr
  lang : Bs
  suffix : Bs
  number : Int
  most : Int
def yearN (c : FilT) : Int := yearL ((fieldL c.fields [121, 101, 97, 114]).getD [])
def yearS (c : FilT) : Bs := if yearN c = 0 then [] else Lib.itoa (yearN c)
def numS (c : FilT) : Bs := if c.number < 1 then [] else Lib.itoa c.number
def specL (c : FilT) : List (Bs × Bs) := [(kAuthor, plistL c.author c.lang c.most false), (kEditor, plistL c.editor c.lang c.most false), (kAuthors, plistL c.author c.lang c.most true), (kEditors, plistL c.editor c.lang c.most true), (kYear, yearS c), (kSuffix, c.suffix), (kNumber, numS c), (kKey, c.key), (kType, c.type)]
/-- The entries with the year and the number. -/
def specOf (l : List (Bs × Bs)) (ys ns : Bs) : List (Bs × Bs) := l.map fun e => if e.1 = kYear then (kYear, ys) else if e.1 = kNumber then (kNumber, ns) else e
/-- The value of a field. -/
def valS (c : FilT) (k : Bs) : Bs := ((specL c).find? fun e => e.1 == k).elim ((fieldL c.fields k).getD []) (·.2)
/-- Bounds of what a template is filled with. -/
def FitF (c : FilT) : Prop := c.author.length ≤ 900 ∧ c.editor.length ≤ 900 ∧ (∀ q ∈ c.author, size4 q ≤ 10000) ∧ (∀ q ∈ c.editor, size4 q ≤ 10000) ∧ (-9223372036854775808 ≤ c.most ∧ c.most ≤ 9223372036854775807) ∧ c.fields.length ≤ 1100000 ∧ ((fieldL c.fields [121, 101, 97, 114]).getD []).length ≤ 140737488355328 ∧ (-9223372036854775808 ≤ c.number ∧ c.number ≤ 9223372036854775807)
end Go.Proofs.YtafcngdnngpdnaaGreatDoor
