/- Plain words: how long words, lines and rules are. No condition. -/
import Derived.Test.YtafcngdnngpdnaaGreatDoorK12
import Derived.Test.YtafcngdnngpdnaaGreatDoorK09
import Derived.Test.YtafcngdnngpdnaaGreatDoorK26
import Derived.Test.YtafcngdnngpdnaaGreatDoorK14
import Derived.Test.YtafcngdnngpdnaaGreatDoorK18
import Derived.Deep.RegionHeld3

set_option linter.all false
namespace Go.Proofs.YtafcngdnngpdnaaGreatDoor
open Go.RowKit

theorem runC_len (c : UInt8) (l : Bs) : (∀ x ∈ (runC c l).1, x.length ≤ l.length) ∧ (runC c l).2.length ≤ l.length := by
  refine snoc_ind (P := fun l => (∀ x ∈ (runC c l).1, x.length ≤ l.length) ∧ (runC c l).2.length ≤ l.length) ?_ ?_ l
  · exact ⟨fun x hx => by simp [runC] at hx, by simp [runC]⟩
  · intro l b ih
    obtain ⟨h1, h2⟩ := ih
    rw [runC_snoc]
    unfold stepC
    split
    · refine ⟨fun x hx => ?_, by simp⟩
      rcases List.mem_append.1 hx with h | h
      · have := h1 x h; simp; omega
      · simp only [List.mem_singleton] at h; subst h; simp; omega
    · refine ⟨fun x hx => ?_, by simp; omega⟩
      have := h1 x hx; simp; omega
theorem words_le (l : Bs) : (∀ x ∈ wordsB l, x.length ≤ l.length) ∧ (wordsB l).length ≤ l.length + 1 := by
  obtain ⟨h1, h2⟩ := runC_len 32 l
  refine ⟨fun x hx => ?_, ?_⟩
  · unfold wordsB splitC at hx
    rw [List.mem_filter] at hx
    rcases List.mem_append.1 hx.1 with h | h
    · exact h1 x h
    · simp only [List.mem_singleton] at h; subst h; exact h2
  · have := splitC_count 32 l
    have h3 := List.length_filter_le (fun x : Bs => !x.isEmpty) (splitC 32 l)
    unfold wordsB; omega
theorem lines_le (t : Bs) : (∀ x ∈ linesL t, x.length ≤ t.length) ∧ (linesL t).length ≤ t.length + 1 := by
  obtain ⟨h1, h2⟩ := runC_len 10 t
  refine ⟨fun x hx => ?_, ?_⟩
  · unfold linesL at hx
    rcases List.mem_append.1 hx with h | h
    · exact h1 x h
    · split at h
      · cases h
      · simp only [List.mem_singleton] at h; subst h; exact h2
  · have := splitC_count 10 t
    unfold splitC at this
    unfold linesL
    rw [List.length_append] at this ⊢
    split <;> simp at this ⊢ <;> omega
/-- What a collation without errors is as long as. -/
theorem colE_small {c : ColT} (h : colE c = 0) : c.order.length ≤ 128 ∧ c.ranks.length ≤ 128 ∧ c.ignore.length ≤ 200 ∧ (∀ s ∈ c.order, s.length ≤ 200) ∧ ∀ p ∈ c.ranks, p.1.length ≤ 200 ∧ p.2.length ≤ 200 := by
  obtain ⟨h1, h2, h3, h4, h5⟩ := colE_parts h
  refine ⟨h1, h2, ?_, fun s hs => (rule_parts (ordC_all _ _ h3 s hs)).2.1, fun p hp => ?_⟩
  · rcases ign_rule h5 with q | q
    · rw [q]; simp
    · exact (rule_parts q).2.1
  · have hr := rnkC_all c.ranks _ h4 p hp
    exact ⟨(rule_parts hr.1).2.1, (rule_parts hr.2).2.1⟩
theorem SmallC.ok {c : ColT} (h : colE c = 0) : SmallC c := by
  obtain ⟨h1, h2, h3, h4, h5⟩ := colE_small h
  exact ⟨by omega, by omega, by omega, fun s hs => by have := h4 s hs; omega, fun p hp => by have := h5 p hp; omega⟩
/-- A line of short words leaves a collation small. -/
theorem addW_small {c c' : ColT} {x : Bs} {ws : List Bs} (h : colE c = 0) (hw : ∀ y ∈ x :: ws, y.length ≤ 600) (hn : ws.length ≤ 600) (ha : addW c (x :: ws) = some c') : SmallC c' := by
  obtain ⟨h1, h2, h3, h4, h5⟩ := colE_small h
  rcases addW_cases c x ws with ⟨_, _, e⟩ | ⟨y, z, _, rfl, e⟩ | ⟨y, _, rfl, e⟩ | ⟨e, _⟩
  · rw [e] at ha
    cases ha
    refine ⟨by simp; omega, by simp; omega, by simp; omega, fun s hs => ?_, fun p hp => ?_⟩
    · rcases List.mem_append.1 hs with q | q
      · have := h4 s q; omega
      · have := hw s (by simp [q]); omega
    · have := h5 p hp; omega
  · rw [e] at ha
    cases ha
    refine ⟨by simp; omega, by simp; omega, by simp; omega, fun s hs => ?_, fun p hp => ?_⟩
    · have := h4 s hs; omega
    · rcases List.mem_append.1 hp with q | q
      · have := h5 p q; omega
      · simp only [List.mem_singleton] at q
        subst q
        have := hw y (by simp)
        have := hw z (by simp)
        exact ⟨by simp; omega, by simp; omega⟩
  · rw [e] at ha
    cases ha
    have := hw y (by simp)
    refine ⟨by simp; omega, by simp; omega, by simp; omega, fun s hs => ?_, fun p hp => ?_⟩
    · have := h4 s hs; omega
    · have := h5 p hp; omega
  · rw [e] at ha; cases ha
theorem colE_zero : colE zeroC = 0 := by simp [colE, zeroC, ordC, rnkC, ignC]
theorem colR_at (ls : List Bs) (k : Nat) (l : Bs) (c : ColT) (h : ls[k]? = some l) : colR (ls.drop k) k c = if wordsB l = [] then colR (ls.drop (k + 1)) (k + 1) c else match addW c (wordsB l) with
    | none => (zeroC, (k : Int) + 1, 5)
    | some c' => if colE c' ≠ 0 then (zeroC, (k : Int) + 1, colE c') else colR (ls.drop (k + 1)) (k + 1) c' := by
  obtain ⟨hk, rfl⟩ := List.getElem?_eq_some_iff.1 h
  rw [List.drop_eq_getElem_cons hk, colR]; rfl
end Go.Proofs.YtafcngdnngpdnaaGreatDoor

/- Text of collate. Conditions: lengths. -/
set_option linter.all false
namespace Go.Proofs.YtafcngdnngpdnaaGreatDoor
open Go.RowKit

theorem run_add {P : Program} (a b : Bs) (ha : a.length ≤ 4000000000) (hb : b.length ≤ 4000000000) (w : World) : (Op.stringOp .add (bs a) (bs b)).run P w = .ok (.string (bs (a ++ b))) w := by
  rw [run_string_add_sum w (bs a) (bs b) (by simp only [bs_size]; omega), bs_append]
theorem join_le (xs : List Bs) (n : Nat) (h : ∀ x ∈ xs, x.length ≤ n) : (Lib.join xs [32]).length ≤ xs.length * (n + 1) := by
  induction xs with
  | nil => simp [Lib.join_nil]
  | cons x xs ih =>
    have h1 := h x (by simp)
    have h2 := ih (fun y hy => h y (by simp [hy]))
    cases xs with
    | nil => rw [Lib.join_one]; simp; omega
    | cons y r =>
      rw [join_2]
      simp only [List.length_append, List.length_cons, List.length_nil] at h2 ⊢
      rw [Nat.add_mul] at h2 ⊢
      rw [Nat.add_mul]
      omega
theorem joinLn_len (xs : List Bs) (n : Nat) (h : ∀ x ∈ xs, x.length ≤ n) : (joinLn xs).length ≤ xs.length * (n + 1) := by
  induction xs with
  | nil => simp [joinLn]
  | cons x xs ih =>
    have h1 := h x (by simp)
    have h2 := ih (fun y hy => h y (by simp [hy]))
    have e : joinLn (x :: xs) = x ++ [10] ++ joinLn xs := by simp [joinLn]
    rw [e]
    simp only [List.length_append, List.length_cons, List.length_nil]
    rw [Nat.add_mul]; omega
def ordLine (c : ColT) : List Bs := if c.order = [] then [] else [[111, 114, 100, 101, 114, 32] ++ Lib.join c.order [32]]
def ignLine (c : ColT) : List Bs := if c.ignore = [] then [] else [[105, 103, 110, 111, 114, 101, 32] ++ c.ignore]
theorem colL_is (c : ColT) : colL c = ordLine c ++ c.ranks.map rankLine ++ ignLine c := rfl
theorem colL_le {c : ColT} (h : colE c = 0) : (colL c).length ≤ 130 ∧ ∀ x ∈ colL c, x.length ≤ 30000 := by
  obtain ⟨h1, h2, h3, h4, h5⟩ := colE_small h
  rw [colL_is]
  refine ⟨?_, fun x hx => ?_⟩
  · unfold ordLine ignLine
    simp only [List.length_append, List.length_map]
    split <;> split <;> simp <;> omega
  · rcases List.mem_append.1 hx with hx | hx
    · rcases List.mem_append.1 hx with hx | hx
      · unfold ordLine at hx
        split at hx
        · cases hx
        · simp only [List.mem_singleton] at hx
          subst hx
          have := join_le c.order 200 h4
          simp only [List.length_append, List.length_cons, List.length_nil]
          have h6 : c.order.length * 201 ≤ 128 * 201 := Nat.mul_le_mul_right _ h1
          omega
      · obtain ⟨p, hp, rfl⟩ := List.mem_map.1 hx
        have := h5 p hp
        unfold rankLine
        simp only [List.length_append, List.length_cons, List.length_nil]; omega
    · unfold ignLine at hx
      split at hx
      · cases hx
      · simp only [List.mem_singleton] at hx
        subst hx
        simp only [List.length_append, List.length_cons, List.length_nil]; omega
end Go.Proofs.YtafcngdnngpdnaaGreatDoor

/- Text of style. Conditions: lengths. -/
set_option linter.all false
namespace Go.Proofs.YtafcngdnngpdnaaGreatDoor
open Go.RowKit

theorem Tryz.size9 : (Tryz.prog.info? 44).map (fun x => x.size) = some 9 := by kernel_rfl
theorem there_new (w : World) (cs : Array Value) (t : TypeId) (n : Nat) (h : cs.size = n) : (w.alloc (.cells cs t)).there w.heap.size 0 n := by
  intro j hj
  have hb := heap_alloc_new w (.cells cs t)
  constructor
  · rw [Nat.zero_add, cell_of_row _ _ _ _ _ _ hb]
    rw [Array.getElem?_eq_getElem (by omega)]; rfl
  · unfold World.frozen?
    simp only [hb]
    simp
theorem kept_cells {a : World} (b : Nat) (hg : a.heap.size ≤ b) : ∀ (vs : List Value) (o : Nat) (w : World), Kept a w → Kept a (w.setCells b o vs)
  | [], _, _, h => h
  | v :: vs, o, w, h => kept_cells b hg vs (o + 1) _ (kept_set h b o v hg)
theorem size_cells (b : Nat) : ∀ (vs : List Value) (o : Nat) (w : World), (w.setCells b o vs).heap.size = w.heap.size
  | [], _, _ => rfl
  | v :: vs, o, w => (size_cells b vs (o + 1) _).trans (size_setCell w _ v)
theorem run_heads (k : Nat) (hk : k < 9) (w : World) : (Instr.index 44 (.agg (strCells headsL).toArray) (.int .i64 (k : Int))).run Tryz.prog w = .ok (.string (bs (headsL.getD k []))) w := by
  obtain rfl | rfl | rfl | rfl | rfl | rfl | rfl | rfl | rfl : k = 0 ∨ k = 1 ∨ k = 2 ∨ k = 3 ∨ k = 4 ∨ k = 5 ∨ k = 6 ∨ k = 7 ∨ k = 8 := by omega
  all_goals (clear hk; show (Instr.index _ _ _).run _ _ = _; kernel_rfl)
theorem heads_len (k : Nat) : (headsL.getD k []).length ≤ 8 := by
  match k with
  | 0 => decide
  | 1 => decide
  | 2 => decide
  | 3 => decide
  | 4 => decide
  | 5 => decide
  | 6 => decide
  | 7 => decide
  | 8 => decide
  | k + 9 => simp [headsL]
theorem headL_next (y : StyT) (k : Nat) (hk : k < 9) (v : Bs) (hv : (valsL y)[k]? = some v) : (headL y).take (k + 1) = (headL y).take k ++ [headsL.getD k [] ++ v] := by
  have h : (headL y)[k]? = some (headsL.getD k [] ++ v) := by
    unfold headL
    rw [List.getElem?_zipWith, hv]
    have : headsL[k]? = some (headsL.getD k []) := by
      rw [List.getD_eq_getElem?_getD, List.getElem?_eq_getElem (show k < headsL.length from hk)]; rfl
    rw [this]
  obtain ⟨hk', e⟩ := List.getElem?_eq_some_iff.1 h
  rw [List.take_succ_eq_append_getElem hk', e]
theorem valsL_len (y : StyT) (hs : SmallY y) (hm : y.most.toNat < 100) : ∀ v ∈ valsL y, v.length ≤ 100000 := by
  obtain ⟨s1, s2, s3, s4, s5, s6, s7, _⟩ := hs
  intro v hv
  unfold valsL at hv
  simp only [List.mem_cons, List.mem_nil_iff, or_false] at hv
  have hd := dec_small _ hm
  have hy : (yesL y.numeric).length ≤ 3 := by unfold yesL; split <;> decide
  rcases hv with rfl | rfl | rfl | rfl | rfl | rfl | rfl | rfl | rfl <;> omega
theorem entL_len (y : StyT) (hs : SmallY y) : ∀ p ∈ y.entries, (entL p).length ≤ 300000 := by
  obtain ⟨_, _, _, _, _, _, _, _, s9⟩ := hs
  intro p hp
  have := s9 p hp
  unfold entL kEntry
  simp only [List.length_append, List.length_cons, List.length_nil]
  omega
theorem styLn_len (y : StyT) (hs : SmallY y) (hm : y.most.toNat < 100) : (styLn y).length ≤ 10009 ∧ ∀ x ∈ styLn y, x.length ≤ 300000 := by
  have h1 := valsL_len y hs hm
  have h2 := entL_len y hs
  obtain ⟨_, _, _, _, _, _, _, s8, _⟩ := hs
  constructor
  · unfold styLn headL
    rw [List.length_append, List.length_map, List.length_zipWith]
    have : headsL.length = 9 := rfl
    omega
  · intro x hx
    unfold styLn at hx
    rcases List.mem_append.1 hx with hx | hx
    · obtain ⟨k, hk, e⟩ := List.getElem_of_mem hx
      unfold headL at hk e
      rw [List.getElem_zipWith] at e
      rw [List.length_zipWith] at hk
      subst e
      rw [List.length_append]
      have ha := h1 _ (List.getElem_mem (show k < (valsL y).length by omega))
      have hb := heads_len k
      rw [List.getD_eq_getElem?_getD, List.getElem?_eq_getElem (by omega)] at hb
      simp only [Option.getD_some] at hb
      omega
    · obtain ⟨p, hp, rfl⟩ := List.mem_map.1 hx
      exact h2 p hp
/-- The state behind the nine values: the values lie in a block of their own. -/
structure Vals9 (w1 w9 : World) (b : Nat) (y : StyT) : Prop where
  kept : Kept w1 w9
  lt : b < w9.heap.size
  cell : ∀ (k : Nat) (v : Bs), (valsL y)[k]? = some v → w9.cell? ⟨b, k, none⟩ = some (.string (bs v))
theorem vals9_of (w1 W : World) (y : StyT) (vs : List Value) (hvs : vs = strCells (valsL y)) (hk : Kept w1 W) (hb : w1.heap.size < W.heap.size) (ht : W.there w1.heap.size 0 vs.length) : Vals9 w1 (W.setCells w1.heap.size 0 vs) w1.heap.size y := by
  refine ⟨kept_cells _ (Nat.le_refl _) vs 0 W hk, by rw [size_cells]; exact hb, fun k v hv => ?_⟩
  have h := World.rangeAt_setCells_same W w1.heap.size 0 vs ht k (.string (bs v)) (by subst hvs; exact strCells_at _ _ _ hv)
  rw [Nat.zero_add] at h
  exact h
set_option maxRecDepth 100000 in
set_option maxHeartbeats 6400000 in
theorem stext_any (vE : Value) (y : StyT) (w : World) (hg : Gnd w) (hs : SmallY y) (hv : Prs w vE y.entries) :
    Calls Tryz.prog 7 #[styV vE y] w fun e w' => e = .returned (.tuple #[.string (bs (styS y)), .int .i64 (styE y)]) ∧ Kept w w' := by
  obtain ⟨i0, hi, hz0, hz1, hz2⟩ := info_parts Tryz.infoStr
  have HG := Lib.hid hg
  have HV := Lib.hid hv
  have HSM := Lib.hid hs
  have HCK := Lib.hid (fun w h h' => scheck_any vE y w h HSM.out h')
  have HS0 : Hid (styE y ≠ 0 → styS y = []) := fun h => by unfold styS; rw [if_neg h]
  have HS1 : Hid (styE y = 0 → styS y = joinLn (headL y ++ y.entries.map entL)) := fun h => by unfold styS; rw [if_pos h]; rfl
  have HMO : Hid (styE y = 0 → 1 ≤ y.most ∧ y.most ≤ 32) := fun h => ⟨(styE_parts h).2.2.2.2.2.2.2.1, (styE_parts h).2.2.2.2.2.2.2.2.1⟩
  obtain ⟨s1, s2, s3, s4, s5, s6, s7, s8, s9⟩ := hs
  obtain ⟨aE, cE, rfl, lE⟩ := hv.form
  have HS9 := Lib.hid s9
  generalize styS y = T at *
  generalize styE y = E at *
  clear hg hv s9
  unfold styV styCells at HCK ⊢
  have HK0 := Lib.hid (kept_alloc w (.cells (styCells (.slice aE y.entries.length cE) y) 24))
  have HB0 := Lib.hid (Blk.new w 24 (styCells (.slice aE y.entries.length cE) y))
  unfold styCells at HK0 HB0
  go_enter Tryz.func7, Tryz.ntmps7
  go_wp2_with fail
  generalize w.alloc _ = w0 at *
  generalize w.heap.size = B at *
  refine (HCK.out _ (HG.out.kept HK0.out) (HV.out.kept HK0.out)).mono ?_
  rintro e w1 ⟨rfl, hk⟩
  have HB1 := Lib.hid (HB0.out.kept hk)
  have HK1 := Lib.hid (HK0.out.trans hk)
  clear hk HCK HK0 HB0
  by_cases hE : E = 0
  case neg =>
    have hE' : (E == 0) = false := by simpa using hE
    have HT := Lib.hid (HS0.out hE)
    go_wp2_with fail
    go_ret2
    exact ⟨by rw [HT.out]; rfl, HK1.out⟩
  subst hE
  have HT := Lib.hid (HS1.out rfl)
  obtain ⟨m1, m2⟩ := HMO.out rfl
  clear HS0 HS1 HMO
  obtain ⟨mo, hmo⟩ : ∃ n : Nat, y.most = (n : Int) := ⟨y.most.toNat, by omega⟩
  have hdl := dec_small mo (by omega)
  have HLN := Lib.hid (styLn_len y HSM.out (by omega))
  have HVL := Lib.hid (valsL_len y HSM.out (by omega))
  have HIT := Lib.hid (fun w => Tryz.strconv_Itoa_small mo (by omega) w)
  simp only [mk_bs] at HIT
  have HVS : Hid (strCells (valsL y) = [.string (bs y.name), .string (bs (yesL y.numeric)), .string (bs y.sort), .string (bs y.cite), .string (bs y.bare), .string (bs y.between), .string (bs y.begin_), .string (bs y.end_), .string (bs (Lib.decDigits mo))]) := by
    show _ = _
    unfold valsL strCells
    rw [hmo]; rfl
  rw [hmo] at HB1
  generalize Lib.decDigits mo = D at *
  clear hmo
  have HCC : Hid (∀ w', Kept w1 w' → (w'.cell? ⟨B, 0, none⟩ = some (.string (bs y.name)) ∧ w'.cell? ⟨B, 2, none⟩ = some (.string (bs y.sort)) ∧ w'.cell? ⟨B, 3, none⟩ = some (.string (bs y.cite)) ∧ w'.cell? ⟨B, 4, none⟩ = some (.string (bs y.bare)) ∧ w'.cell? ⟨B, 5, none⟩ = some (.string (bs y.between)) ∧ w'.cell? ⟨B, 6, none⟩ = some (.string (bs y.begin_)) ∧ w'.cell? ⟨B, 7, none⟩ = some (.string (bs y.end_)) ∧ w'.cell? ⟨B, 8, none⟩ = some (.int .i64 mo)) ∧ B < w'.heap.size) := fun w' h =>
    ⟨⟨(HB1.out.kept h).cell 0 _ rfl, (HB1.out.kept h).cell 2 _ rfl, (HB1.out.kept h).cell 3 _ rfl, (HB1.out.kept h).cell 4 _ rfl, (HB1.out.kept h).cell 5 _ rfl, (HB1.out.kept h).cell 6 _ rfl, (HB1.out.kept h).cell 7 _ rfl, (HB1.out.kept h).cell 8 _ rfl⟩, (HB1.out.kept h).lt⟩
  obtain ⟨⟨t0, t2, t3, t4, t5, t6, t7, t8⟩, z0⟩ := HCC.out w1 (Kept.refl _)
  have t1 : w1.cell? ⟨B, 1, none⟩ = some (.bool y.numeric) := HB1.out.cell 1 _ rfl
  have hkd : Kept w1 w1.drew := kept_drewN w1 1
  have hka : Kept w1 (w1.alloc (.cells #[.string (bs []), .string (bs []), .string (bs []), .string (bs []), .string (bs []), .string (bs []), .string (bs []), .string (bs []), .string (bs [])] 44)).drew := (kept_alloc w1 _).trans (kept_drewN _ 1)
  cases hn : y.numeric
  case' false =>
    rw [hn] at t1 HVS HB1
    clear hn
    simp only [yesL, Bool.false_eq_true, if_false, if_true] at HVS
    go_wp2_with fail
    generalize hYS : ([110, 111] : Bs) = YS at *
    have hyl : YS.length ≤ 3 := by rw [← hYS]; decide
    clear hYS
  case' true =>
    rw [hn] at t1 HVS HB1
    clear hn
    simp only [yesL, Bool.false_eq_true, if_false, if_true] at HVS
    go_wp2_with fail
    generalize hYS : ([121, 101, 115] : Bs) = YS at *
    have hyl : YS.length ≤ 3 := by rw [← hYS]; decide
    clear hYS
  all_goals
    have hone : ∀ v ∈ ([.string (bs y.name), .string (bs YS), .string (bs y.sort), .string (bs y.cite), .string (bs y.bare), .string (bs y.between), .string (bs y.begin_), .string (bs y.end_), .string (bs D)] : List Value), v.oneCell' = true := by simp [Value.oneCell']
    have hth : (w1.alloc (.cells #[.string (bs []), .string (bs []), .string (bs []), .string (bs []), .string (bs []), .string (bs []), .string (bs []), .string (bs []), .string (bs [])] 44)).drew.there w1.heap.size 0 ([.string (bs y.name), .string (bs YS), .string (bs y.sort), .string (bs y.cite), .string (bs y.bare), .string (bs y.between), .string (bs y.begin_), .string (bs y.end_), .string (bs D)] : List Value).length := by
      rw [World.there_drew]
      exact there_new w1 _ 44 9 rfl
    have hsz9 : Option.map (fun x : TypeInfo => x.size) (Tryz.prog.info? 44) = some ([.string (bs y.name), .string (bs YS), .string (bs y.sort), .string (bs y.cite), .string (bs y.bare), .string (bs y.between), .string (bs y.begin_), .string (bs y.end_), .string (bs D)] : List Value).length := Tryz.size9
    have HV9 := Lib.hid (vals9_of w1 (w1.alloc (.cells #[.string (bs []), .string (bs []), .string (bs []), .string (bs []), .string (bs []), .string (bs []), .string (bs []), .string (bs []), .string (bs [])] 44)).drew y [.string (bs y.name), .string (bs YS), .string (bs y.sort), .string (bs y.cite), .string (bs y.bare), .string (bs y.between), .string (bs y.begin_), .string (bs y.end_), .string (bs D)] HVS.out.symm hka (by simp) hth)
    have hkc := HV9.out.kept
    clear t1
    go_region_held3 (fun w' => (w'.cell? ⟨B, 0, none⟩ = some (.string (bs y.name)) ∧ w'.cell? ⟨B, 2, none⟩ = some (.string (bs y.sort)) ∧ w'.cell? ⟨B, 3, none⟩ = some (.string (bs y.cite)) ∧ w'.cell? ⟨B, 4, none⟩ = some (.string (bs y.bare)) ∧ w'.cell? ⟨B, 5, none⟩ = some (.string (bs y.between)) ∧ w'.cell? ⟨B, 6, none⟩ = some (.string (bs y.begin_)) ∧ w'.cell? ⟨B, 7, none⟩ = some (.string (bs y.end_)) ∧ w'.cell? ⟨B, 8, none⟩ = some (.int .i64 mo)) ∧ B < w'.heap.size)
      ((refine HCC.out _ ?_; with_reducible assumption))
      (first
        | (go_at_call 15; refine (HIT.out _).mono ?_; rintro e w3 ⟨rfl, rfl⟩))
    all_goals
      rename_i hHeld
      clear hHeld hth hsz9 hone hka hkd hkc HIT HCC t0 t2 t3 t4 t5 t6 t7 t8 z0
      generalize World.setCells _ _ _ _ = w9 at HV9 ⊢
      have HK9 := Lib.hid (HK1.out.trans HV9.out.kept)
      have HB9 := Lib.hid (HB1.out.kept HV9.out.kept)
      go_wp2_with fail
      refine (sheads_any _).mono ?_
      rintro e w10 ⟨rfl, hk10⟩
      have HK10 := Lib.hid (HK9.out.trans hk10)
      have HB10 := Lib.hid (HB9.out.kept hk10)
      have HC10 : Hid (∀ (k : Nat) (v : Bs), (valsL y)[k]? = some v → w10.cell? ⟨w1.heap.size, k, none⟩ = some (.string (bs v))) := fun k v hv => (hk10.cell (p := ⟨w1.heap.size, k, none⟩) HV9.out.lt).trans (HV9.out.cell k v hv)
      have z10 : w1.heap.size < w10.heap.size := Nat.lt_of_lt_of_le HV9.out.lt hk10.size
      have HRH := Lib.hid run_heads
      obtain ⟨HA, HHA⟩ : ∃ HA, Hid ((strCells headsL).toArray = HA) := ⟨_, rfl⟩
      rw [HHA.out] at HRH ⊢
      have HNX : Hid (∀ (k : Nat), k < 9 → ∃ v, (valsL y)[k]? = some v ∧ v.length ≤ 100000 ∧ (headL y).take (k + 1) = (headL y).take k ++ [headsL.getD k [] ++ v]) := fun k hk => by
        have hl : k < (valsL y).length := hk
        exact ⟨(valsL y)[k], List.getElem?_eq_getElem hl, HVL.out _ (List.getElem_mem hl), headL_next y k hk _ (List.getElem?_eq_getElem hl)⟩
      have HL0 : Hid ((headL y).take 0 = []) := rfl
      have HL9 : Hid ((headL y).take 9 = headL y) := by
        show _ = _
        rw [List.take_of_length_le]
        unfold headL; rw [List.length_zipWith]
        show min headsL.length _ ≤ headsL.length
        exact Nat.min_le_left _ _
      have HLH : Hid (headL y ++ y.entries.map entL = styLn y) := rfl
      have HHN : Hid ((headL y).length = 9) := by
        show _ = _
        unfold headL; rw [List.length_zipWith]; rfl
      clear hk10 HK1 HB1 HV9 HK9 HB9 HVL HVS hyl
      generalize w1.heap.size = B9 at *
      go_wp2_with fail
      (try simp only [mk_bs])
      go_loopw [7, 39] (fun v i wr => ∃ (k : Nat) (ys : List Bs), k ≤ 9 ∧ i = .int .i64 k ∧ Hid (ys.length = k) ∧ Hid (wr.ownsRow w10.heap.size 9 1 v ys.length (strCells ys)) ∧ Hid (ys = (headL y).take k) ∧ Hid (Kept w10 wr)) (fun _ i _ => 9 - (intOf i).toNat)
      case atStart => exact ⟨0, [], Nat.zero_le _, rfl, rfl, World.ownsRow_nil _ _ _ _, HL0.out.symm, Kept.refl _⟩
      case round =>
        obtain ⟨k, ys, hk, rfl, HYL, HOWN, HYS, HKR⟩ := hrel
        have hsz : w10.heap.size ≤ wr.heap.size := HKR.out.size
        by_cases hlt : k < 9
        · obtain ⟨v, hv, hvl, hvt⟩ := HNX.out k hlt
          have t9 : wr.cell? ⟨B9, k, none⟩ = some (.string (bs v)) := (HKR.out.cell (p := ⟨B9, k, none⟩) z10).trans (HC10.out k v hv)
          have hix := fun w => HRH.out k hlt w
          have hhl := heads_len k
          have HVT : Hid ((headL y).take (k + 1) = ys ++ [headsL.getD k [] ++ v]) := by rw [HYS.out]; exact hvt
          generalize headsL.getD k [] = h at *
          have ad1 := fun w => run_add (P := Tryz.prog) h v (by omega) (by omega) w
          have hyl : ys.length ≤ 9 := by rw [HYL.out]; exact hk
          generalize h ++ v = s3 at *
          clear hv hvt
          go_wp2_with (at_builtin; refine wpList_append_own _ rfl _ _ 45 rfl w10.heap.size 9 i0 (.string ⟨#[]⟩) 1 16 Tryz.underlying45 hi hz0 hz1 hz2 rfl (by decide) _ _ _ rfl (HOWN.out.alloc _) ⟨wr.heap.size, 0, none⟩ 1 1 [.string (bs s3)] rfl rfl (new_cells _ #[.string (bs s3)] _ _ (by simp)) (by intro u hu; simp at hu; subst hu; rfl) (by unfold maxLen; omega) (by omega) (by simp; omega) ?_; intro v' w2 hown3 hgrow _)
          have HB2 := Lib.hid ((HKR.out.trans (kept_alloc _ _)).trans' (grown_below (HOWN.out.alloc _) hgrow (by simp; omega)))
          rw [← strCells_snoc] at hown3
          have HO := Lib.hid hown3
          clear hown3 hgrow
          go_wp2_with fail
          go_roundw
          case rel => exact ⟨k + 1, ys ++ [s3], by omega, by go_num, (by show _ = _; rw [List.length_append, HYL.out]; rfl), Lib.hid (by simpa using HO.out), HVT.out.symm, HB2.out⟩
          case measure => simp [intOf]; omega
        · have HK99 : Hid (k = 9) := Lib.hid (by omega)
          have h9 : 9 ≤ k := by omega
          have h9' : (9 : Int) ≤ (k : Int) := by omega
          have HYH : Hid (ys = headL y) := by show _ = _; rw [HYS.out, HK99.out, HL9.out]
          have HOWNs := Lib.hid HOWN.out
          have HYLs := Lib.hid HYL.out
          have HKS := Lib.hid HKR.out
          have hyl : ys.length ≤ 9 := by rw [HYL.out]; exact hk
          rw [HK99.out] at HYLs
          have b9 : wr.cell? ⟨B, 9, none⟩ = some (.slice aE y.entries.length cE) := (HB10.out.kept HKR.out).cell 9 _ rfl
          have z9 := (HB10.out.kept HKR.out).lt
          clear HYS HKR HOWN HYL hlt
          go_wp2_with fail
          (try simp only [mk_bs])
          clear b9 z9
          clear h9 h9' hk
          go_loopw [7, 55] (fun v i wr => ∃ (k : Nat) (xs : List Bs), k ≤ y.entries.length ∧ i = .int .i64 k ∧ Hid (xs.length = 9 + k) ∧ Hid (wr.ownsRow w10.heap.size 9 1 v xs.length (strCells xs)) ∧ Hid (xs = headL y ++ (y.entries.take k).map entL) ∧ Hid (Kept w10 wr)) (fun _ i _ => y.entries.length - (intOf i).toNat)
          case atStart => exact ⟨0, ys, Nat.zero_le _, rfl, HYLs.out, HOWNs.out, by show _ = _; rw [HYH.out]; simp, HKS.out⟩
          case round =>
            clear HYLs HOWNs HKS HYH hyl hsz
            obtain ⟨k, xs, hk, rfl, HXL, HOWN, HXS, HKR⟩ := hrel
            have hsz : w10.heap.size ≤ wr.heap.size := HKR.out.size
            by_cases hlt : k < y.entries.length
            · obtain ⟨p, hx⟩ : ∃ x, y.entries[k]? = some x := ⟨_, List.getElem?_eq_getElem hlt⟩
              obtain ⟨hp1, hp2⟩ := HS9.out p (List.mem_of_getElem? hx)
              obtain ⟨g, o, rfl, hg, d0, d1, _, _⟩ := (HV.out.kept (HK10.out.trans HKR.out)).cell_of k p hx
              have HN : Hid (headL y ++ (y.entries.take (k + 1)).map entL = xs ++ [entL p]) := by
                show _ = _
                obtain ⟨hk', rfl⟩ := List.getElem?_eq_some_iff.1 hx
                rw [List.take_succ_eq_append_getElem hk', HXS.out, List.map_append, List.append_assoc]; rfl
              obtain ⟨x, z⟩ := p
              simp only at hp1 hp2 d0 d1
              have ad1 := fun w => run_add (P := Tryz.prog) [101, 110, 116, 114, 121, 32] x (by simp) (by omega) w
              have ad2 := fun w => run_add (P := Tryz.prog) ([101, 110, 116, 114, 121, 32] ++ x) [58] (by simp; omega) (by simp) w
              have ad3 := fun w => run_add (P := Tryz.prog) ([101, 110, 116, 114, 121, 32] ++ x ++ [58]) z (by simp; omega) (by omega) w
              have HRL : Hid (entL (x, z) = [101, 110, 116, 114, 121, 32] ++ x ++ [58] ++ z) := rfl
              rw [HRL.out] at HN
              generalize hz3 : [101, 110, 116, 114, 121, 32] ++ x ++ [58] ++ z = s3 at *
              generalize hz2' : [101, 110, 116, 114, 121, 32] ++ x ++ [58] = s2 at *
              generalize hz1' : [101, 110, 116, 114, 121, 32] ++ x = s1 at *
              clear hz3 hz2' hz1' HRL hx
              have HOWN2 := Lib.hid (HOWN.out.alloc (.cells #[.string (bs x), .string (bs z)] 35))
              have HKA := Lib.hid (HKR.out.trans (kept_alloc wr (.cells #[.string (bs x), .string (bs z)] 35)))
              have hxl : xs.length ≤ 10009 := by rw [HXL.out]; omega
              clear HOWN
              go_wp2_with (at_builtin; refine wpList_append_own _ rfl _ _ 45 rfl w10.heap.size 9 i0 (.string ⟨#[]⟩) 1 16 Tryz.underlying45 hi hz0 hz1 hz2 rfl (by decide) _ _ _ rfl (HOWN2.out.alloc _) ⟨wr.heap.size + 1, 0, none⟩ 1 1 [.string (bs s3)] rfl rfl (new_cells _ #[.string (bs s3)] _ _ (by simp)) (by intro u hu; simp at hu; subst hu; rfl) (by unfold maxLen; omega) (by omega) (by simp; omega) ?_; intro v' w2 hown3 hgrow _)
              have HB2 := Lib.hid ((HKA.out.trans (kept_alloc _ _)).trans' (grown_below (HOWN2.out.alloc _) hgrow (by simp; omega)))
              rw [← strCells_snoc] at hown3
              have HO := Lib.hid hown3
              clear hown3 hgrow
              go_wp2_with fail
              go_roundw
              case rel => exact ⟨k + 1, xs ++ [s3], by omega, by go_num, (by show _ = _; rw [List.length_append, HXL.out]; rfl), Lib.hid (by simpa using HO.out), HN.out.symm, HB2.out⟩
              case measure => simp [intOf]; omega
            · have HAL : Hid (xs = styLn y) := by
                have h := HXS.out
                rw [List.take_of_length_le (by omega)] at h
                exact h
              rw [HLH.out, ← HAL.out] at HT
              rw [← HAL.out] at HLN
              have HSS := Lib.hid (Strs.own HOWN.out)
              have HJ := Lib.hid (fun v w h => ljoin_any v xs w h (by have := HLN.out.1; omega) (by have := joinLn_len xs 300000 HLN.out.2; have h7 : xs.length * 300001 ≤ 10009 * 300001 := Nat.mul_le_mul_right _ HLN.out.1; omega))
              have HKZ := Lib.hid (HK10.out.trans HKR.out)
              obtain ⟨ay, cy, hvy, hcy, _, _⟩ := own_cap HOWN.out
              subst hvy
              clear HOWN hcy
              generalize joinLn xs = J at *
              go_wp2_with fail
              refine (HJ.out _ _ HSS.out).mono ?_
              rintro e w5 ⟨rfl, hk5⟩
              have HK5 := Lib.hid (HKZ.out.trans hk5)
              clear hk5
              go_wp2_with fail
              go_ret2
              exact ⟨by rw [HT.out]; rfl, HK5.out⟩
end Go.Proofs.YtafcngdnngpdnaaGreatDoor
