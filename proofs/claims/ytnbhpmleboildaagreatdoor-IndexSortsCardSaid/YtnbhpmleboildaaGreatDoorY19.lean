/- gloss.Uses: the names that are used, each once. Conditions: lengths. -/
import Derived.Test.YtnbhpmleboildaaGreatDoorY18
import Derived.Test.YtnbhpmleboildaaGreatDoorY04
import Derived.Test.YtnbhpmleboildaaGreatDoorY13
import Derived.Test.YtnbhpmleboildaaGreatDoorY01
import Derived.Test.YtnbhpmleboildaaGreatDoorY02
import Derived.Test.YtnbhpmleboildaaGreatDoorY11
import Derived.Laws.StructEq

set_option linter.all false
namespace Go.Proofs.YtnbhpmleboildaaGreatDoor
open Go.RowKit

/-- What the walks ask of an inline. -/
def okU (x : Inl) : Prop := okI1 x ∧ (plainL x.kids).length ≤ 1000000
theorem Strs.outG {base : Nat} {A : Nat → Prop} {w : World} {v : Value} {xs : List Bs} (h : OutG StrK 1 A base 9 w v xs) : Strs w v xs := by
  obtain ⟨css, h1, h2, ho, h4⟩ := h
  have e : css.flatten = strCells xs := by
    clear ho
    induction css generalizing xs with
    | nil => cases xs with
      | nil => rfl
      | cons _ _ => simp at h1
    | cons c css ih =>
      cases xs with
      | nil => simp at h1
      | cons x xs =>
        have hc := h4 0 c x rfl rfl
        unfold StrK at hc
        subst hc
        have := ih (xs := xs) (by simpa using h1) (fun cs h => h2 cs (List.mem_cons_of_mem _ h)) (fun j cs x hc hx => h4 (j + 1) cs x (by simpa using hc) (by simpa using hx))
        rw [List.flatten_cons, this]; rfl
  rw [e] at ho
  exact Strs.own ho
end Go.Proofs.YtnbhpmleboildaaGreatDoor

/- index.sorted: texts in the order of a collation. Conditions: lengths. -/
set_option linter.all false
namespace Go.Proofs.YtnbhpmleboildaaGreatDoor
open Go.RowKit

def sortT (c : ColT) (l : List Bs) : List Bs := (sortC c l).map (txt l)
theorem sortC_len (c : ColT) (l : List Bs) : (sortC c l).length = l.length := by have := (sortC_perm c l).length_eq; simpa using this
theorem sortT_len (c : ColT) (l : List Bs) : (sortT c l).length = l.length := by unfold sortT; rw [List.length_map, sortC_len]
theorem sortC_lt {c : ColT} {l : List Bs} {k i : Nat} (h : (sortC c l)[k]? = some i) : i < l.length := by
  have := (sortC_perm c l).mem_iff.1 (List.mem_of_getElem? h)
  simpa using this
theorem Ints.ltB {w : World} {v : Value} {xs : List Int} (h : Ints w v xs) (q : 0 < xs.length) (g : Nat) (hg : v.ownBlock = some g) : g < w.heap.size := by
  obtain ⟨a, c, hv, hc, h3⟩ := h
  obtain ⟨g', o, ha, hgg, _⟩ := h3 q
  rw [hv, ha] at hg
  have : g' = g := by simpa [Value.ownBlock] using hg
  omega
theorem sortT_perm (c : ColT) (l : List Bs) : (sortT c l).Perm l := by
  have h := (sortC_perm c l).map (txt l)
  unfold sortT
  refine h.trans ?_
  have e : (List.range l.length).map (txt l) = l := by
    apply List.ext_getElem
    · simp
    · intro i h1 h2
      simp only [List.getElem_map, List.getElem_range]
      unfold txt
      rw [List.getD_eq_getElem?_getD, List.getElem?_eq_getElem h2]; rfl
  rw [e]
/-- A new slice of texts. -/
def StrN (xs : List Bs) (w : World) (e : Ending) (w' : World) : Prop := ∃ v, e = .returned v ∧ Strs w' v xs ∧ InB (fun g => w.heap.size ≤ g) v xs.length ∧ Kept w w'
set_option maxRecDepth 100000 in
set_option maxHeartbeats 6400000 in
theorem isorted_any (vR vO vL : Value) (c : ColT) (l : List Bs) (w : World) (hv : Col w vR vO c) (hL : Strs w vL l) (hs : SmallC c) (hn : l.length ≤ 1000) (hll : ∀ x ∈ l, x.length ≤ 100000) :
    Calls Tryz.prog 21 #[colV vR vO c.ignore, vL] w (StrN (sortT c l) w) := by
  obtain ⟨i0, hi, hz0, hz1, hz2⟩ := info_parts Tryz.infoStr
  have HV := Lib.hid hv
  have HL := Lib.hid hL
  have HSRT := Lib.hid (fun w (h1 : Col w vR vO c) (h2 : Strs w vL l) => sort_wide vR vO vL c l w h1 h2 hs hn hll)
  unfold IntsB at HSRT
  obtain ⟨aR, cR, rfl, lR⟩ := hv.1.form
  obtain ⟨aO, cO, rfl, lO⟩ := hv.2.form
  obtain ⟨aL, cL, rfl, lL⟩ := hL.form
  clear hv hL hs
  have hk0 := kept_alloc w (.cells #[.slice aR c.ranks.length cR, .slice aO c.order.length cO, .string (bs c.ignore)] 28)
  have HB0 := Lib.hid (Blk.new w 28 #[.slice aR c.ranks.length cR, .slice aO c.order.length cO, .string (bs c.ignore)])
  have HK0 := Lib.hid hk0
  have hbz : w.heap.size ≤ (w.alloc (.cells #[.slice aR c.ranks.length cR, .slice aO c.order.length cO, .string (bs c.ignore)] 28)).heap.size := hk0.size
  have HRNG := Lib.hid (fun k i (h : (sortC c l)[k]? = some i) => sortC_lt h)
  have HLEN := Lib.hid (sortC_len c l)
  have HFIN : Hid (∀ v w', OutG StrK 1 (fun _ => False) w.heap.size 9 w' v (((sortC c l).take (sortC c l).length).map (txt l)) → Kept w w' → StrN (sortT c l) w (.returned v) w') := fun v w' h1 h2 => ⟨v, rfl, by
    rw [List.take_length] at h1
    exact ⟨Strs.outG h1, fun _ g hg => (h1.blk g hg).1, h2⟩⟩
  generalize StrN (sortT c l) w = Q at *
  clear hk0
  go_enter Tryz.func21, Tryz.ntmps21
  go_wp2_with (at_make; refine wpList_make_own _ rfl _ _ 26 rfl w.heap.size 9 i0 (.string ⟨#[]⟩) 1 Tryz.underlying26 hi hz0 hz1 .i64 .i64 l.length l.length rfl rfl rfl (by rw [hz2]; omega) (by unfold maxLen; omega) hbz ?_; intro w3 hown3 hgrow3; have HK3 : Hid (Kept w w3) := HK0.out.trans (Below.grown (Below.refl _ _) hgrow3 (Nat.le_refl _) (fun j hj => by cases hj)); have HOW := Lib.hid hown3; have HB3 := Lib.hid (HB0.out.kept (Below.grown (Below.refl _ _) hgrow3 (Nat.le_refl _) (fun j hj => by cases hj))); have b0 : w3.cell? ⟨w.heap.size, 0, none⟩ = some (.slice aR c.ranks.length cR) := HB3.out.cell 0 _ rfl; have b1 : w3.cell? ⟨w.heap.size, 1, none⟩ = some (.slice aO c.order.length cO) := HB3.out.cell 1 _ rfl; have b2 : w3.cell? ⟨w.heap.size, 2, none⟩ = some (.string (bs c.ignore)) := HB3.out.cell 2 _ rfl; have bz := HB3.out.lt; clear hown3 hgrow3)
  refine (HSRT.out w3 (HV.out.kept HK3.out) (HL.out.kept HK3.out)).mono ?_
  rintro e w4 ⟨v4, rfl, hI4, hIB, hk4⟩
  obtain ⟨a4, c4, rfl, l4⟩ := hI4.form
  have HI4 := Lib.hid hI4
  have HIB := Lib.hid hIB
  rw [List.length_map] at HIB
  have HRB := Lib.hid (fun g (q : (Value.slice (some ⟨w.heap.size + 1, 0, none⟩) 0 l.length).ownBlock = some g) => (OutG.blk (R := StrK) (k := 1) (A := fun _ => False) (xs := []) (base := w.heap.size) (e := 9) (w := w3) ⟨[], rfl, (fun _ h => by cases h), by simpa using HOW.out, (fun _ _ _ h => by cases h)⟩ g q).2)
  have HK4 := Lib.hid (HK3.out.trans hk4)
  have HO4 : Hid (OutG StrK 1 (fun _ => False) w.heap.size 9 w4 (.slice (some ⟨(w.alloc (.cells #[.slice aR c.ranks.length cR, .slice aO c.order.length cO, .string (bs c.ignore)] 28)).heap.size, 0, none⟩) 0 l.length) []) := ⟨[], rfl, (fun _ h => by cases h), own_kept HOW.out hk4, (fun _ _ _ h => by cases h)⟩
  clear hI4 hk4 HOW HSRT HB0 HK0 HB3 b0 b1 b2 bz
  obtain ⟨ns, HNS⟩ : ∃ ns, Hid (sortC c l = ns) := ⟨_, rfl⟩
  rw [HNS.out] at HI4 HIB HRNG HLEN HFIN l4 ⊢
  rw [List.length_map] at l4 ⊢
  have hnl : ns.length = l.length := HLEN.out
  have hsw : (w.alloc (.cells #[.slice aR c.ranks.length cR, .slice aO c.order.length cO, .string (bs c.ignore)] 28)).heap.size = w.heap.size + 1 := by simp
  rw [hsw] at HO4
  clear hsw hbz
  go_wp2_with fail
  go_loopw [5, 15] (fun o i wr => ∃ (k : Nat), k ≤ ns.length ∧ i = .int .i64 k ∧ Hid (OutG StrK 1 (fun _ => False) w.heap.size 9 wr o ((ns.take k).map (txt l))) ∧ Hid (Only (fun g => w.heap.size ≤ g ∧ (g < w3.heap.size ∨ w4.heap.size ≤ g)) w4 wr) ∧ Hid (∀ g, o.ownBlock = some g → g < w3.heap.size ∨ w4.heap.size ≤ g)) (fun _ i _ => ns.length - (intOf i).toNat)
  case atStart => exact ⟨0, Nat.zero_le _, rfl, HO4.out, Only.of_kept (Kept.refl w4), fun g q => .inl (HRB.out g q)⟩
  case round =>
    obtain ⟨k, hk, rfl, HGR, HKR, HGX⟩ := hrel
    have hkw : Kept w wr := HK4.out.trans' (HKR.out.below HK4.out.size (fun i q => q.1))
    have HKWR := Lib.hid hkw
    clear hkw
    by_cases hlt : k < ns.length
    · obtain ⟨m, hm⟩ : ∃ m, ns[k]? = some m := ⟨_, List.getElem?_eq_getElem hlt⟩
      have hml := HRNG.out k m hm
      obtain ⟨x, hx⟩ : ∃ x, l[m]? = some x := ⟨_, List.getElem?_eq_getElem hml⟩
      have HT : Hid ((ns.take (k + 1)).map (txt l) = (ns.take k).map (txt l) ++ [x]) := by
        show _ = _
        rw [take_snoc hm, List.map_append]
        congr 1
        show [txt l m] = [x]
        unfold txt
        rw [List.getD_eq_getElem?_getD, hx]; rfl
      obtain ⟨gi, oi, rfl, hgi, di⟩ := (HI4.out.onl2 HKR.out (fun q g hg r => by have := HIB.out (by rw [List.length_map] at q; omega) g (by simpa using hg); have := HI4.out.ltB (by simpa using q) g (by simpa using hg); omega)).cell_of k (m : Int) (by rw [List.getElem?_map, hm]; rfl)
      obtain ⟨gl, ol, rfl, hgl, dl, -, -⟩ := (HL.out.kept HKWR.out).cell_of m x hx
      obtain ⟨ar, cr, rfl, hcr, hmr⟩ := HGR.out.form
      have hka := kept_alloc wr (.cells #[.string (bs x)] 9)
      have HG2 := Lib.hid (HGR.out.kept strK hka)
      have HROW := Lib.hid (Blk.new wr 9 #[.string (bs x)])
      have hb2 : w.heap.size ≤ (wr.alloc (.cells #[.string (bs x)] 9)).heap.size := Nat.le_trans HKWR.out.size hka.size
      have HKA := Lib.hid hka
      have htl : ((ns.take k).map (txt l)).length ≤ 1000 := by rw [List.length_map, List.length_take]; omega
      obtain ⟨os, HOS⟩ : ∃ os, Hid ((ns.take k).map (txt l) = os) := ⟨_, rfl⟩
      rw [HOS.out] at HG2 HT htl
      have HGR' := HGR.out
      rw [HOS.out] at HGR'
      rw [HOS.out]
      have HGB := Lib.hid (fun g q => (HGR'.blk g q).1)
      have HGX2 := Lib.hid HGX.out
      rw [HOS.out] at HGX2
      clear HGR HGR' HGX hm hx HOS hka
      go_wp2_with (refine wpList_append_out strK rfl (.tmp 19) (.tmp 24) 26 rfl i0 _ 16 Tryz.underlying26 hi hz0 hz1 hz2 rfl (by omega) (by rfl) HG2.out _ [.string (bs x)] x (by rfl) (fun j u hu => HROW.out.cell j u (by rw [← Array.getElem?_toList]; exact hu)) rfl rfl (by unfold maxLen; omega) (by omega) hb2 _ rfl ?_; intro g7 c7' w7 hout7 hgrow7 hat7 hlt7; have HGROW := Lib.hid hgrow7; have HAT := Lib.hid hat7; have HOUT7 := Lib.hid hout7; clear hgrow7 hat7 hout7)
      have HOUT8 : Hid (OutG StrK 1 (fun _ => False) w.heap.size 9 w7 (.slice (some ⟨g7, 0, none⟩) (os.length + 1) c7') ((ns.take (k + 1)).map (txt l))) := by rw [HT.out]; exact HOUT7.out
      have HON : Hid (Only (fun g => w.heap.size ≤ g ∧ (g < w3.heap.size ∨ w4.heap.size ≤ g)) w4 w7) := (HKR.out.trans (Only.of_kept HKA.out)).trans ((Only.grown HGROW.out).mono (fun g _ q => ⟨HGB.out g q.symm, HGX2.out g q.symm⟩))
      have HGX8 : Hid (∀ g, (Value.slice (some ⟨g7, 0, none⟩) (os.length + 1) c7').ownBlock = some g → g < w3.heap.size ∨ w4.heap.size ≤ g) := fun g q => by
        cases q
        rcases HAT.out with r | r
        · exact HGX2.out g7 r
        · right
          have := HKR.out.size
          have := HKA.out.size
          show w4.heap.size ≤ g7
          omega
      clear HG2 HROW HKA HGROW HOUT7 HT HGB HGX2 HAT HKR HKWR
      go_wp2_with fail
      go_roundw
      case rel => exact ⟨k + 1, by omega, by go_num, HOUT8.out, HON.out, HGX8.out⟩
      case measure => simp [intOf]; omega
    · obtain rfl : k = ns.length := by omega
      obtain ⟨ar, cr, rfl, hcr, hmr⟩ := HGR.out.form
      have HF := Lib.hid (HFIN.out _ _ HGR.out HKWR.out)
      clear HGR HKR HI4
      go_wp2_with fail
      (try go_ret)
      exact HF.out
end Go.Proofs.YtnbhpmleboildaaGreatDoor

/- Maps in memory whose keys are pairs of texts: look-up, a key that is new, a key that is put again. No condition. -/
set_option linter.all false
namespace Go.Proofs.YtnbhpmleboildaaGreatDoor
open Go.RowKit

abbrev KyP := Bs × Bs
def kyP (k : KyP) : Value := .agg #[.string (bs k.1), .string (bs k.2)]
def entQ (e : KyP × Value) (i : Nat) : MapEntry := { key := kyP e.1, val := e.2, born := i }
def entsQ (es : List (KyP × Value)) : Array MapEntry := (es.mapIdx fun i e => entQ e i).toArray
/-- Block m is the map of the entries es. -/
def MapQ (w : World) (m : Nat) (es : List (KyP × Value)) : Prop := w.heap[m]? = some (.map (entsQ es) es.length)
/-- The world with other entries in block m. -/
def putQ (w : World) (m : Nat) (es : List (KyP × Value)) : World := { w with heap := w.heap.setIfInBounds m (.map (entsQ es) es.length) }
def getQ (es : List (KyP × Value)) (k : KyP) : Option Value := (es.find? fun e => e.1 == k).map (·.2)
theorem MapQ.lt {w : World} {m : Nat} {es : List (KyP × Value)} (h : MapQ w m es) : m < w.heap.size := by
  rcases Nat.lt_or_ge m w.heap.size with q | q
  · exact q
  · unfold MapQ at h; rw [Array.getElem?_eq_none q] at h; cases h
theorem MapQ.only {S : Nat → Prop} {w w' : World} {m : Nat} {es : List (KyP × Value)} (h : MapQ w m es) (k : Only S w w') (hs : ¬ S m) : MapQ w' m es := by
  unfold MapQ at h ⊢; rw [k.block m (MapQ.lt h) hs]; exact h
theorem MapQ.kept {w w' : World} {m : Nat} {es : List (KyP × Value)} (h : MapQ w m es) (k : Kept w w') : MapQ w' m es := h.only (Only.of_kept (S := fun _ => False) k) (fun q => q)
theorem MapQ.made (w : World) : MapQ (w.alloc (.map #[] 0)) w.heap.size [] := heap_alloc_new w _
theorem putQ_map (w : World) (m : Nat) (es : List (KyP × Value)) (hm : m < w.heap.size) : MapQ (putQ w m es) m es := by
  unfold MapQ putQ; simp [hm]
theorem putQ_only (w : World) (m : Nat) (es : List (KyP × Value)) : Only (fun i => i = m) w (putQ w m es) :=
  ⟨rfl, rfl, rfl, by simp [putQ], fun k hk hs => by simp [putQ, Array.getElem?_setIfInBounds, Ne.symm hs]⟩
theorem entsQ_snoc (es : List (KyP × Value)) (e : KyP × Value) : entsQ (es ++ [e]) = (entsQ es).push (entQ e es.length) := by
  unfold entsQ; rw [List.mapIdx_append]; simp
theorem entsQ_list (es : List (KyP × Value)) : (entsQ es).toList = es.mapIdx fun i e => entQ e (i + 0) := by simp [entsQ]
theorem getQ_cons (e : KyP × Value) (es : List (KyP × Value)) (k : KyP) : getQ (e :: es) k = if e.1 = k then some e.2 else getQ es k := by
  unfold getQ
  rw [List.find?_cons]
  by_cases h : e.1 = k
  · rw [if_pos h]; simp [h]
  · rw [if_neg h]
    have : (e.1 == k) = false := by simpa using h
    rw [this]
theorem getQ_snoc {es : List (KyP × Value)} {k : KyP} (h : getQ es k = none) (v : Value) (k' : KyP) : getQ (es ++ [(k, v)]) k' = if k' = k then some v else getQ es k' := by
  induction es with
  | nil =>
    rw [List.nil_append, getQ_cons]
    by_cases q : k' = k
    · rw [if_pos q, if_pos q.symm]
    · rw [if_neg q, if_neg (fun e => q e.symm)]
  | cons e es ih =>
    rw [getQ_cons] at h
    by_cases q : e.1 = k
    · rw [if_pos q] at h; cases h
    · rw [if_neg q] at h
      rw [List.cons_append, getQ_cons, getQ_cons, ih h]
      by_cases q2 : e.1 = k'
      · rw [if_pos q2, if_pos q2, if_neg (fun e' => q (by rw [q2, e']))]
      · rw [if_neg q2, if_neg q2]
section
variable {P : Program} {tm ti te : TypeId} {fs : Array Field}
theorem findQ (heq : ∀ (a b : KyP) (w : World), (Op.equal ti (kyP a) (kyP b)).run P w = .ok (a == b) w) (w : World) (k : KyP) : ∀ (l : List (KyP × Value)) (i j : Nat),
    (getQ l k = none ∧ (Instr.findAsking ti (kyP k) (l.mapIdx fun i' e => entQ e (i' + i)) j).run P w = .ok none w) ∨
    (∃ (n : Nat) (v : Value), getQ l k = some v ∧ l[n]? = some (k, v) ∧ (Instr.findAsking ti (kyP k) (l.mapIdx fun i' e => entQ e (i' + i)) j).run P w = .ok (some (n + j, v)) w ∧ ∀ u k', getQ (l.set n (k, u)) k' = if k' = k then some u else getQ l k')
  | [], _, _ => .inl ⟨rfl, by simp [Instr.findAsking, Sem.run_pure]⟩
  | e :: l, i, j => by
    rw [List.mapIdx_cons, getQ_cons]
    by_cases h : e.1 = k
    · right
      have hx : (k == e.1) = true := by rw [beq_iff_eq]; exact h.symm
      refine ⟨0, e.2, by rw [if_pos h], by rw [← h]; rfl, ?_, fun u k' => ?_⟩
      · simp [Instr.findAsking, entQ, heq, hx, Sem.run_pure]
      · rw [List.set_cons_zero, getQ_cons, getQ_cons]
        by_cases q : k' = k
        · rw [if_pos q, if_pos q.symm]
        · rw [if_neg q, if_neg (fun e => q e.symm), if_neg (fun e' => q (by rw [← e', h]))]
    · have hx : (k == e.1) = false := by rw [beq_eq_false_iff_ne]; exact fun q => h q.symm
      have hm : (l.mapIdx fun i' x => entQ x (i' + 1 + i)) = l.mapIdx fun i' x => entQ x (i' + (i + 1)) := by
        congr 1; funext a b; congr 1; omega
      rw [if_neg h, hm]
      have hstep : ∀ es, (Instr.findAsking ti (kyP k) (entQ e (0 + i) :: es) j).run P w = (Instr.findAsking ti (kyP k) es (j + 1)).run P w := fun es => by
        simp [Instr.findAsking, entQ, heq, hx]
      rw [hstep]
      rcases findQ heq w k l (i + 1) (j + 1) with ⟨g1, g2⟩ | ⟨n, v, g1, g2, g3, g4⟩
      · left
        exact ⟨g1, g2⟩
      · right
        refine ⟨n + 1, v, g1, by simpa using g2, by rw [g3]; congr 3; omega, fun u k' => ?_⟩
        rw [List.set_cons_succ, getQ_cons, getQ_cons, g4]
        by_cases q : e.1 = k'
        · rw [if_pos q, if_pos q, if_neg (fun e' => h (by rw [q, e']))]
        · rw [if_neg q, if_neg q]
/-- What the laws ask of the keys' type. -/
structure KeyP (P : Program) (tm ti te : TypeId) (fs : Array Field) : Prop where
  map : P.underlying tm = some (.map ti te)
  str : P.underlying ti = some (.struct fs)
  eq : ∀ (a b : KyP) (w : World), (Op.equal ti (kyP a) (kyP b)).run P w = .ok (a == b) w
  chk : ∀ (e : Bool) (a : KyP) (w : World), (Instr.checkKey e 10000 ti (kyP a)).run P w = .ok () w
  stay : ∀ (a : KyP) (w : World), (Instr.keyThatStays (kyP a) (kyP a)).run P w = .ok (kyP a) w
theorem runQ (H : KeyP P tm ti te fs) (w : World) (es : List (KyP × Value)) (k : KyP) :
    (getQ es k = none ∧ (Instr.findKey ti (kyP k) (entsQ es).toList).run P w = .ok none w) ∨
    (∃ n v, getQ es k = some v ∧ es[n]? = some (k, v) ∧ (Instr.findKey ti (kyP k) (entsQ es).toList).run P w = .ok (some (n, v)) w ∧ ∀ u k', getQ (es.set n (k, u)) k' = if k' = k then some u else getQ es k') := by
  have hrun : (Instr.findKey ti (kyP k) (entsQ es).toList).run P w = (Instr.findAsking ti (kyP k) (entsQ es).toList 0).run P w := by
    unfold Instr.findKey
    simp only [Sem.run_bind, run_underlying H.str, Result.andThen]
    cases h : (entsQ es).toList with
    | nil => simp [Instr.findNow, Instr.findAsking, Sem.run_pure]
    | cons e l =>
      have : Instr.findNow (.struct fs) (kyP k) (e :: l) 0 = none := by
        unfold Instr.findNow Instr.sameNow; rfl
      rw [this]
  rw [hrun, entsQ_list]
  rcases findQ H.eq w k es 0 0 with ⟨g1, g2⟩ | ⟨n, v, g1, g2, g3, g4⟩
  · left
    exact ⟨g1, g2⟩
  · right
    exact ⟨n, v, g1, g2, g3, g4⟩
theorem lookQ (H : KeyP P tm ti te fs) (w : World) (m : Nat) (es : List (KyP × Value)) (k : KyP) (z : Value) (hz : (zeroValue te).run P w = .ok z w) (h : MapQ w m es) :
    (Instr.lookup tm (.map (some m)) (kyP k) false).run P w = .ok ((getQ es k).getD z) w := by
  unfold MapQ at h
  unfold Instr.lookup
  simp only [Sem.run_bind, run_underlying H.map, Result.andThen]
  rcases runQ H w es k with ⟨g1, g2⟩ | ⟨n, v, g1, _, g3, _⟩
  · simp only [getObj, Sem.run_bind, Sem.run, h, Result.andThen, Sem.run_pure, H.chk, g2, g1, hz]
    simp [Sem.run_pure]
  · simp only [getObj, Sem.run_bind, Sem.run, h, Result.andThen, Sem.run_pure, H.chk, g3, g1]
    simp [Sem.run_pure]
theorem insQ (H : KeyP P tm ti te fs) (w : World) (m : Nat) (es : List (KyP × Value)) (k : KyP) (v : Value) (h : MapQ w m es) (hk : getQ es k = none) :
    (Instr.mapUpdate tm (.map (some m)) (kyP k) v).run P w = .ok () (putQ w m (es ++ [(k, v)])) := by
  unfold MapQ at h
  unfold Instr.mapUpdate
  simp only [Sem.run_bind, run_underlying H.map, Result.andThen]
  rcases runQ H w es k with ⟨g1, g2⟩ | ⟨n, v', g1, _, _, _⟩
  · simp only [getObj, Sem.run_bind, Sem.run, h, Result.andThen, Sem.run_pure, H.chk, g2, setObj]
    refine congrArg (Result.ok ()) ?_
    unfold putQ
    rw [entsQ_snoc]
    simp [entQ]
  · rw [hk] at g1; cases g1
/-- A key that is there is put again, with another value: at its place. -/
theorem overQ (H : KeyP P tm ti te fs) (w : World) (m : Nat) (es : List (KyP × Value)) (k : KyP) (v v0 : Value) (h : MapQ w m es) (hk : getQ es k = some v0) :
    ∃ es', (∀ k', getQ es' k' = if k' = k then some v else getQ es k') ∧ (Instr.mapUpdate tm (.map (some m)) (kyP k) v).run P w = .ok () (putQ w m es') := by
  unfold MapQ at h
  rcases runQ H w es k with ⟨g1, _⟩ | ⟨n, v', g1, g2, g3, g4⟩
  · rw [hk] at g1; cases g1
  · rw [hk] at g1
    cases g1
    refine ⟨es.set n (k, v), g4 v, ?_⟩
    unfold Instr.mapUpdate
    simp only [Sem.run_bind, run_underlying H.map, Result.andThen]
    have e1 : (entsQ es)[n]? = some (entQ (k, v0) n) := by unfold entsQ; simp [g2]
    simp only [getObj, Sem.run_bind, Sem.run, h, Result.andThen, Sem.run_pure, H.chk, g3, setObj, e1, Option.map_some, Option.getD_some, entQ, H.stay]
    refine congrArg (Result.ok ()) ?_
    unfold putQ
    have e2 : ((entsQ es).modify n fun e => { e with key := kyP k, val := v }) = entsQ (es.set n (k, v)) := by
      apply Array.ext_getElem?
      intro i
      rw [Array.getElem?_modify]
      by_cases q : n = i
      · subst q
        rw [if_pos rfl, e1]
        unfold entsQ
        have hn := (List.getElem?_eq_some_iff.1 g2).1
        simp [entQ, hn]
      · rw [if_neg q]
        unfold entsQ
        simp [List.getElem?_set, q]
    have e3 : (es.set n (k, v)).length = es.length := by simp
    rw [e3]
    first | rw [e2] | (trace_state; rfl)
/-- A key is put, new or not. -/
theorem putQ_any (H : KeyP P tm ti te fs) (w : World) (m : Nat) (es : List (KyP × Value)) (k : KyP) (v : Value) (h : MapQ w m es) :
    ∃ es', (∀ k', getQ es' k' = if k' = k then some v else getQ es k') ∧ (Instr.mapUpdate tm (.map (some m)) (kyP k) v).run P w = .ok () (putQ w m es') := by
  cases hk : getQ es k with
  | none => exact ⟨_, fun k' => getQ_snoc hk v k', insQ H w m es k v h hk⟩
  | some v0 => exact overQ H w m es k v v0 h hk
/-- The entry of a key, made if there is none. -/
theorem entryQ (H : KeyP P tm ti te fs) (w : World) (m : Nat) (es : List (KyP × Value)) (k : KyP) (z : Value) (hz : ∀ w, (zeroValue te).run P w = .ok z w) (h : MapQ w m es) :
    ∃ es' n, es'[n]? = some (k, (getQ es k).getD z) ∧ (∀ u k', getQ (es'.set n (k, u)) k' = if k' = k then some u else getQ es k') ∧ (∀ k', (getQ es' k').getD z = (getQ es k').getD z) ∧
      (Instr.mapEntry tm (.map (some m)) (kyP k)).run P w = .ok (.tuple #[(getQ es k).getD z, .int .i64 (n : Nat)]) (putQ w m es') := by
  unfold MapQ at h
  rcases runQ H w es k with ⟨g1, g2⟩ | ⟨n, v, g1, g2, g3, g4⟩
  · refine ⟨es ++ [(k, z)], es.length, by rw [g1]; simp, fun u k' => ?_, fun k' => ?_, ?_⟩
    · have e : (es ++ [(k, z)]).set es.length (k, u) = es ++ [(k, u)] := by simp
      rw [e, getQ_snoc g1]
    · rw [getQ_snoc g1]
      by_cases q : k' = k
      · rw [if_pos q, q, g1]; rfl
      · rw [if_neg q]
    · unfold Instr.mapEntry
      simp only [Sem.run_bind, run_underlying H.map, Result.andThen]
      simp only [getObj, Sem.run_bind, Sem.run, h, Result.andThen, Sem.run_pure, H.chk, g2, hz, setObj]
      have e : putQ w m (es ++ [(k, z)]) = { w with heap := w.heap.setIfInBounds m (.map ((entsQ es).push { key := kyP k, val := z, born := es.length }) (es.length + 1)) } := by
        unfold putQ
        rw [entsQ_snoc]; simp [entQ]
      rw [e, g1]
      simp [Sem.run_pure, goInt]
  · refine ⟨es, n, by rw [g1]; exact g2, g4, fun _ => rfl, ?_⟩
    unfold Instr.mapEntry
    simp only [Sem.run_bind, run_underlying H.map, Result.andThen]
    have e1 : (entsQ es)[n]? = some (entQ (k, v) n) := by unfold entsQ; simp [g2]
    simp only [getObj, Sem.run_bind, Sem.run, h, Result.andThen, Sem.run_pure, H.chk, g3, setObj, e1, Option.map_some, Option.getD_some, entQ, H.stay, g1]
    have e2 : ((entsQ es).modify n fun e => { e with key := kyP k }) = entsQ es := by
      apply Array.ext_getElem?
      intro i
      rw [Array.getElem?_modify]
      by_cases q : n = i
      · subst q
        rw [if_pos rfl, e1]
        simp [entQ]
      · rw [if_neg q]
    rw [e2]
    simp [Sem.run_pure, goInt, putQ]
/-- A value goes into an entry. -/
theorem storeQ (w : World) (m : Nat) (es : List (KyP × Value)) (n : Nat) (k : KyP) (v0 u : Value) (h : MapQ w m es) (hn : es[n]? = some (k, v0)) : (Instr.entryStore tm (.map (some m)) (.int .i64 (n : Nat)) u).run P w = .ok () (putQ w m (es.set n (k, u))) := by
  unfold MapQ at h
  unfold Instr.entryStore
  have hb : n < (entsQ es).size := by unfold entsQ; simp; exact (List.getElem?_eq_some_iff.1 hn).1
  have hbn : ∀ i (hi : i < (entsQ es).size), (entsQ es)[i].born = i := fun i hi => by unfold entsQ; simp [entQ]
  have hf : (entsQ es).findIdx? (fun e => (e.born : Int) == ((n : Nat) : Int)) = some n := by
    rw [Array.findIdx?_eq_some_iff_getElem]
    refine ⟨hb, by rw [hbn n hb]; simp, fun j hj => ?_⟩
    rw [hbn j (by omega)]
    simp; omega
  simp only [getObj, Sem.run_bind, Sem.run, h, Result.andThen, Sem.run_pure, asInt, asIntOf, hf, setObj]
  refine congrArg (Result.ok ()) ?_
  unfold putQ
  have e1 : (entsQ es)[n]? = some (entQ (k, v0) n) := by unfold entsQ; simp [hn]
  have e2 : ((entsQ es).modify n fun e => { e with val := u }) = entsQ (es.set n (k, u)) := by
    apply Array.ext_getElem?
    intro i
    rw [Array.getElem?_modify]
    by_cases q : n = i
    · subst q
      rw [if_pos rfl, e1]
      unfold entsQ
      have hn' := (List.getElem?_eq_some_iff.1 hn).1
      simp [entQ, hn']
    · rw [if_neg q]
      unfold entsQ
      simp [List.getElem?_set, q]
  have e3 : (es.set n (k, u)).length = es.length := by simp
  rw [e3, e2]
end
theorem same_kyP (a : KyP) (w : World) (P : Program) : (Instr.keyThatStays (kyP a) (kyP a)).run P w = .ok (kyP a) w := by
  unfold Instr.keyThatStays
  have e : Instr.sameBits 10000 (kyP a) (kyP a) = true := by
    have h1 : ∀ k : ByteArray, (k == k) = true := fun k => by
      show (k.data == k.data) = true
      exact beq_self_eq_true _
    simp [kyP, Instr.sameBits, h1]
  rw [e]; rfl
theorem Tryz.keyTerm (te tm : TypeId) (hm : Tryz.prog.underlying tm = some (.map 62 te)) : ∃ fs, KeyP Tryz.prog tm 62 te fs := by
  refine ⟨_, hm, Tryz.underlying62, fun a b w => ?_, fun e a w => ?_, fun a w => same_kyP a w _⟩
  · have h : (Op.equal 62 (kyP a) (kyP b)).run Tryz.prog w = if a.1 = b.1 then if a.2 = b.2 then Result.ok true w else Result.ok false w else Result.ok false w := by
      simp [Op.equal, Op.maxDepth, kyP, go_sem, Tryz.underlying62]
    rw [h]
    obtain ⟨a1, a2⟩ := a
    obtain ⟨b1, b2⟩ := b
    by_cases q1 : a1 = b1
    · by_cases q2 : a2 = b2
      · simp [q1, q2]
      · simp [q1, q2]
    · simp [q1]
  · have hin : ∀ s w, (Instr.checkKey e (9998 + 1) 9 (.string s)).run Tryz.prog w = .ok () w := fun s w => by
      rw [Instr.checkKey]
      simp only [Sem.run_bind, run_underlying Tryz.underlying9, Result.andThen]
      simp [Sem.run_pure]
    show (Instr.checkKey e (9998 + 1 + 1) 62 (kyP a)).run Tryz.prog w = .ok () w
    rw [Instr.checkKey]
    simp only [Sem.run_bind, run_underlying Tryz.underlying62, Result.andThen, kyP]
    generalize 9998 + 1 = N at *
    simp [go_sem, hin]
end Go.Proofs.YtnbhpmleboildaaGreatDoor

/- Maps in memory whose keys are texts: look-up, a key that is new, a key that is put again. No condition. -/
set_option linter.all false
namespace Go.Proofs.YtnbhpmleboildaaGreatDoor
open Go.RowKit

def entT (e : Bs × Value) (i : Nat) : MapEntry := { key := .string (bs e.1), val := e.2, born := i }
def entsT (es : List (Bs × Value)) : Array MapEntry := (es.mapIdx fun i e => entT e i).toArray
/-- Block m is the map of the entries es. -/
def MapT (w : World) (m : Nat) (es : List (Bs × Value)) : Prop := w.heap[m]? = some (.map (entsT es) es.length)
/-- The world with other entries in block m. -/
def putT (w : World) (m : Nat) (es : List (Bs × Value)) : World := { w with heap := w.heap.setIfInBounds m (.map (entsT es) es.length) }
def getT (es : List (Bs × Value)) (k : Bs) : Option Value := (es.find? fun e => e.1 == k).map (·.2)
theorem MapT.lt {w : World} {m : Nat} {es : List (Bs × Value)} (h : MapT w m es) : m < w.heap.size := by
  rcases Nat.lt_or_ge m w.heap.size with q | q
  · exact q
  · unfold MapT at h; rw [Array.getElem?_eq_none q] at h; cases h
theorem MapT.only {S : Nat → Prop} {w w' : World} {m : Nat} {es : List (Bs × Value)} (h : MapT w m es) (k : Only S w w') (hs : ¬ S m) : MapT w' m es := by
  unfold MapT at h ⊢; rw [k.block m (MapT.lt h) hs]; exact h
theorem MapT.kept {w w' : World} {m : Nat} {es : List (Bs × Value)} (h : MapT w m es) (k : Kept w w') : MapT w' m es := h.only (Only.of_kept (S := fun _ => False) k) (fun q => q)
theorem MapT.made (w : World) : MapT (w.alloc (.map #[] 0)) w.heap.size [] := heap_alloc_new w _
theorem putT_map (w : World) (m : Nat) (es : List (Bs × Value)) (hm : m < w.heap.size) : MapT (putT w m es) m es := by
  unfold MapT putT; simp [hm]
theorem putT_only (w : World) (m : Nat) (es : List (Bs × Value)) : Only (fun i => i = m) w (putT w m es) :=
  ⟨rfl, rfl, rfl, by simp [putT], fun k hk hs => by simp [putT, Array.getElem?_setIfInBounds, Ne.symm hs]⟩
theorem entsT_snoc (es : List (Bs × Value)) (e : Bs × Value) : entsT (es ++ [e]) = (entsT es).push (entT e es.length) := by
  unfold entsT; rw [List.mapIdx_append]; simp
theorem entsT_list (es : List (Bs × Value)) : (entsT es).toList = es.mapIdx fun i e => entT e (i + 0) := by simp [entsT]
theorem getT_cons (e : Bs × Value) (es : List (Bs × Value)) (k : Bs) : getT (e :: es) k = if e.1 = k then some e.2 else getT es k := by
  unfold getT
  rw [List.find?_cons]
  by_cases h : e.1 = k
  · rw [if_pos h]; simp [h]
  · rw [if_neg h]
    have : (e.1 == k) = false := by simpa using h
    rw [this]
theorem findT (k : Bs) : ∀ (l : List (Bs × Value)) (i j : Nat),
    (getT l k = none ∧ Instr.findNow .string (.string (bs k)) (l.mapIdx fun i' e => entT e (i' + i)) j = some none) ∨
    (∃ (n : Nat) (v : Value), getT l k = some v ∧ l[n]? = some (k, v) ∧ Instr.findNow .string (.string (bs k)) (l.mapIdx fun i' e => entT e (i' + i)) j = some (some (n + j, v)) ∧ ∀ u k', getT (l.set n (k, u)) k' = if k' = k then some u else getT l k')
  | [], _, _ => .inl ⟨rfl, rfl⟩
  | e :: l, i, j => by
    rw [List.mapIdx_cons, getT_cons]
    unfold Instr.findNow
    by_cases h : e.1 = k
    · right
      have hx : (bs k == bs e.1) = true := by rw [bs_beq, beq_iff_eq]; exact h.symm
      refine ⟨0, e.2, by rw [if_pos h], by rw [← h]; rfl, ?_, fun u k' => ?_⟩
      · simp [entT, Instr.sameNow, hx]
      · rw [List.set_cons_zero, getT_cons, getT_cons]
        by_cases q : k' = k
        · rw [if_pos q, if_pos q.symm]
        · rw [if_neg q, if_neg (fun e => q e.symm), if_neg (fun e' => q (by rw [← e', h]))]
    · have hx : (bs k == bs e.1) = false := by rw [bs_beq, beq_eq_false_iff_ne]; exact fun q => h q.symm
      have hm : (l.mapIdx fun i' x => entT x (i' + 1 + i)) = l.mapIdx fun i' x => entT x (i' + (i + 1)) := by
        congr 1; funext a b; congr 1; omega
      rw [if_neg h]
      simp only [entT, Instr.sameNow, hx] at hm ⊢
      rcases findT k l (i + 1) (j + 1) with ⟨g1, g2⟩ | ⟨n, v, g1, g2, g3, g4⟩
      · left
        simp only [entT] at g2
        rw [hm]
        exact ⟨g1, g2⟩
      · right
        simp only [entT] at g3
        rw [hm]
        refine ⟨n + 1, v, g1, by simpa using g2, by rw [g3]; congr 3; omega, fun u k' => ?_⟩
        rw [List.set_cons_succ, getT_cons, getT_cons, g4]
        by_cases q : e.1 = k'
        · rw [if_pos q, if_pos q, if_neg (fun e' => h (by rw [q, e']))]
        · rw [if_neg q, if_neg q]
theorem getT_snoc {es : List (Bs × Value)} {k : Bs} (h : getT es k = none) (v : Value) (k' : Bs) : getT (es ++ [(k, v)]) k' = if k' = k then some v else getT es k' := by
  induction es with
  | nil =>
    rw [List.nil_append, getT_cons]
    by_cases q : k' = k
    · rw [if_pos q, if_pos q.symm]
    · rw [if_neg q, if_neg (fun e => q e.symm)]
  | cons e es ih =>
    rw [getT_cons] at h
    by_cases q : e.1 = k
    · rw [if_pos q] at h; cases h
    · rw [if_neg q] at h
      rw [List.cons_append, getT_cons, getT_cons, ih h]
      by_cases q2 : e.1 = k'
      · rw [if_pos q2, if_pos q2, if_neg (fun e' => q (by rw [q2, e']))]
      · rw [if_neg q2, if_neg q2]
section
variable {P : Program} {tm ti te : TypeId}
theorem check_str (hi : P.underlying ti = some .string) (e : Bool) (s : ByteArray) (w : World) : (Instr.checkKey e 10000 ti (.string s)).run P w = .ok () w := by
  show (Instr.checkKey e (9999 + 1) ti (.string s)).run P w = .ok () w
  rw [Instr.checkKey]
  simp only [Sem.run_bind, run_underlying hi, Result.andThen]
  simp [Sem.run_pure]
theorem runT (hi : P.underlying ti = some .string) (w : World) (es : List (Bs × Value)) (k : Bs) :
    (getT es k = none ∧ (Instr.findKey ti (.string (bs k)) (entsT es).toList).run P w = .ok none w) ∨
    (∃ n v, getT es k = some v ∧ es[n]? = some (k, v) ∧ (Instr.findKey ti (.string (bs k)) (entsT es).toList).run P w = .ok (some (n, v)) w ∧ ∀ u k', getT (es.set n (k, u)) k' = if k' = k then some u else getT es k') := by
  rcases findT k es 0 0 with ⟨g1, g2⟩ | ⟨n, v, g1, g2, g3, g4⟩
  · left
    refine ⟨g1, ?_⟩
    unfold Instr.findKey
    simp only [Sem.run_bind, run_underlying hi, Result.andThen, entsT_list, g2]
    simp [Sem.run_pure]
  · right
    refine ⟨n, v, g1, g2, ?_, g4⟩
    unfold Instr.findKey
    simp only [Sem.run_bind, run_underlying hi, Result.andThen, entsT_list, g3]
    simp [Sem.run_pure]
theorem insT (hm : P.underlying tm = some (.map ti te)) (hi : P.underlying ti = some .string) (w : World) (m : Nat) (es : List (Bs × Value)) (k : Bs) (v : Value) (h : MapT w m es) (hk : getT es k = none) :
    (Instr.mapUpdate tm (.map (some m)) (.string (bs k)) v).run P w = .ok () (putT w m (es ++ [(k, v)])) := by
  unfold MapT at h
  unfold Instr.mapUpdate
  simp only [Sem.run_bind, run_underlying hm, Result.andThen]
  rcases runT hi w es k with ⟨g1, g2⟩ | ⟨n, v', g1, _, _, _⟩
  · simp only [getObj, Sem.run_bind, Sem.run, h, Result.andThen, Sem.run_pure, check_str hi, g2, setObj]
    refine congrArg (Result.ok ()) ?_
    unfold putT
    rw [entsT_snoc]
    simp [entT]
  · rw [hk] at g1; cases g1
theorem same_str (k : ByteArray) (w : World) : (Instr.keyThatStays (.string k) (.string k)).run P w = .ok (.string k) w := by
  unfold Instr.keyThatStays
  have e : Instr.sameBits 10000 (.string k) (.string k) = true := by
    show (k == k) = true
    show (k.data == k.data) = true
    exact beq_self_eq_true _
  rw [e]; rfl
/-- A key that is there is put again, with another value: at its place. -/
theorem overT (hm : P.underlying tm = some (.map ti te)) (hi : P.underlying ti = some .string) (w : World) (m : Nat) (es : List (Bs × Value)) (k : Bs) (v v0 : Value) (h : MapT w m es) (hk : getT es k = some v0) :
    ∃ es', (∀ k', getT es' k' = if k' = k then some v else getT es k') ∧ (Instr.mapUpdate tm (.map (some m)) (.string (bs k)) v).run P w = .ok () (putT w m es') := by
  unfold MapT at h
  rcases runT hi w es k with ⟨g1, _⟩ | ⟨n, v', g1, g2, g3, g4⟩
  · rw [hk] at g1; cases g1
  · rw [hk] at g1
    cases g1
    refine ⟨es.set n (k, v), g4 v, ?_⟩
    unfold Instr.mapUpdate
    simp only [Sem.run_bind, run_underlying hm, Result.andThen]
    have e1 : (entsT es)[n]? = some (entT (k, v0) n) := by unfold entsT; simp [g2]
    simp only [getObj, Sem.run_bind, Sem.run, h, Result.andThen, Sem.run_pure, check_str hi, g3, setObj, e1, Option.map_some, Option.getD_some, entT, same_str]
    refine congrArg (Result.ok ()) ?_
    unfold putT
    have e2 : ((entsT es).modify n fun e => { e with key := .string (bs k), val := v }) = entsT (es.set n (k, v)) := by
      apply Array.ext_getElem?
      intro i
      rw [Array.getElem?_modify]
      by_cases q : n = i
      · subst q
        rw [if_pos rfl, e1]
        unfold entsT
        have hn := (List.getElem?_eq_some_iff.1 g2).1
        simp [entT, hn]
      · rw [if_neg q]
        unfold entsT
        simp [List.getElem?_set, q]
    have e3 : (es.set n (k, v)).length = es.length := by simp
    rw [e3]
    first | rw [e2] | (trace_state; rfl)
end
end Go.Proofs.YtnbhpmleboildaaGreatDoor
