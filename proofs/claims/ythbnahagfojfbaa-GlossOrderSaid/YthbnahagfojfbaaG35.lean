/- rank of publisherref25. Conditions: lengths. -/
import Derived.Test.YthbnahagfojfbaaG34
import Derived.Test.YthbnahagfojfbaaG23
import Derived.Test.YthbnahagfojfbaaG11
import Derived.Deep.RegionHeld3

set_option linter.all false
namespace Go.Proofs.Ythbnahagfojfbaa
open Go.RowKit

/-- What is left of the search for a letter's group. -/
def rkAt (c : ColT) (x : Int) (k : Nat) : Int := match (c.order.drop k).findIdx? fun s => (ptsL s).contains x with
  | some i => ((k + i : Nat) : Int) + 1
  | none => (c.order.length : Int) + 1 + x
theorem rkAt_zero (c : ColT) (x : Int) (h : x ≠ 32) : rankI c x = rkAt c x 0 := by
  unfold rankI rkAt grpI
  rw [if_neg h, List.drop_zero]
  cases c.order.findIdx? fun s => (ptsL s).contains x <;> simp
theorem rkAt_drop {c : ColT} {k : Nat} {s : Bs} (h : c.order[k]? = some s) : c.order.drop k = s :: c.order.drop (k + 1) := by
  obtain ⟨hk, rfl⟩ := List.getElem?_eq_some_iff.1 h
  exact List.drop_eq_getElem_cons hk
theorem rkAt_hit (c : ColT) (x : Int) (k : Nat) (s : Bs) (h : c.order[k]? = some s) (hc : (ptsL s).contains x = true) : rkAt c x k = (k : Int) + 1 := by
  unfold rkAt
  rw [rkAt_drop h, List.findIdx?_cons, if_pos hc]; simp
theorem rkAt_miss (c : ColT) (x : Int) (k : Nat) (s : Bs) (h : c.order[k]? = some s) (hc : (ptsL s).contains x = false) : rkAt c x k = rkAt c x (k + 1) := by
  unfold rkAt
  rw [rkAt_drop h, List.findIdx?_cons, if_neg (by rw [hc]; simp)]
  cases (c.order.drop (k + 1)).findIdx? fun s => (ptsL s).contains x with
  | none => rfl
  | some i => simp; omega
theorem rkAt_end (c : ColT) (x : Int) (k : Nat) (h : ¬ k < c.order.length) : rkAt c x k = (c.order.length : Int) + 1 + x := by
  unfold rkAt
  rw [List.drop_of_length_le (by omega)]; rfl
set_option maxRecDepth 100000 in
set_option maxHeartbeats 3200000 in
theorem rrank_any (vR vO : Value) (c : ColT) (x : Int) (w : World) (hv : Col w vR vO c) (hs : SmallC c) (hx0 : 0 ≤ x) (hx1 : x ≤ 1114111) :
    Calls Try.prog 36 #[colV vR vO c.ignore, .int .i64 x] w fun e w' => e = .returned (.int .i64 (rankI c x)) ∧ Kept w w' := by
  obtain ⟨hR, hO⟩ := hv
  obtain ⟨s1, s2, s3, s4, s5⟩ := hs
  have HS4 := Lib.hid s4
  clear s4 s5
  have HO := Lib.hid hO
  obtain ⟨aR, cR, rfl, lR⟩ := hR.form
  obtain ⟨aO, cO, rfl, lO⟩ := hO.form
  clear hR hO
  have HB1 := Lib.hid (Blk.new w 26 #[.slice aR c.ranks.length cR, .slice aO c.order.length cO, .string (bs c.ignore)])
  have HK := Lib.hid (kept_alloc w (.cells #[.slice aR c.ranks.length cR, .slice aO c.order.length cO, .string (bs c.ignore)] 26))
  by_cases hx : x = 32
  · have HE : Hid (rankI c x = 0) := by show _ = _; unfold rankI; rw [if_pos hx]
    rw [HE.out]
    subst hx
    clear HE
    go_enter Try.func36, Try.ntmps36
    go_wp2_with fail
    go_ret
    exact ⟨rfl, HK.out⟩
  have hx' : (x == 32) = false := by simpa using hx
  have H0 := Lib.hid (rkAt_zero c x hx)
  have HHIT := Lib.hid (rkAt_hit c x)
  have HMISS := Lib.hid (rkAt_miss c x)
  have HEND := Lib.hid (rkAt_end c x)
  obtain ⟨R, HR⟩ : ∃ R, Hid (rankI c x = R) := ⟨_, rfl⟩
  rw [HR.out] at H0 ⊢
  clear HR hx
  go_enter Try.func36, Try.ntmps36
  go_wp2_with fail
  generalize w.alloc (.cells #[.slice aR c.ranks.length cR, .slice aO c.order.length cO, .string (bs c.ignore)] 26) = w0 at *
  generalize w.heap.size = B at *
  go_loopw [5] (fun i wr => ∃ k : Nat, k ≤ c.order.length ∧ i = .int .i64 k ∧ Hid (R = rkAt c x k) ∧ Hid (Kept w0 wr)) (fun i _ => c.order.length - (intOf i).toNat)
  case atStart => exact ⟨0, Nat.zero_le _, rfl, H0.out, Kept.refl _⟩
  case round =>
    obtain ⟨k, hk, rfl, HA, HKR⟩ := hrel
    have b1 : wr.cell? ⟨B, 1, none⟩ = some (.slice aO c.order.length cO) := (HB1.out.kept HKR.out).cell 1 _ rfl
    have z1 := (HB1.out.kept HKR.out).lt
    by_cases hlt : k < c.order.length
    · obtain ⟨s, hx⟩ : ∃ x, c.order[k]? = some x := ⟨_, List.getElem?_eq_getElem hlt⟩
      obtain ⟨g, o, rfl, hg, d0, -, -⟩ := (HO.out.kept (HK.out.trans HKR.out)).cell_of k s hx
      have hsl := HS4.out s (List.mem_of_getElem? hx)
      have HLT := Lib.hid (fun w => rletters_any s w (by omega))
      have hpl := ptsL_len s
      have H1 := Lib.hid (HHIT.out k s hx)
      have H2 := Lib.hid (HMISS.out k s hx)
      clear hx
      generalize ptsL s = L at *
      go_wp2_with fail
      refine (HLT.out _).mono ?_
      rintro e w2 ⟨v2, rfl, hi2, hk2⟩
      have HI2 := Lib.hid hi2
      obtain ⟨a2, c2, rfl, -⟩ := hi2.form
      have HK2 := Lib.hid (HKR.out.trans hk2)
      clear hi2 hk2
      go_wp2_with fail
      refine (rin_any _ L x _ HI2.out (by omega)).mono ?_
      rintro e w3 ⟨rfl, rfl⟩
      generalize L.contains x = bb at *
      cases bb with
      | true =>
        have HE : Hid (R = (k : Int) + 1) := HA.out.trans (H1.out rfl)
        go_wp2_with fail
        go_ret
        exact ⟨ret_int HE.out.symm, HK.out.trans HK2.out⟩
      | false =>
        have HE : Hid (R = rkAt c x (k + 1)) := HA.out.trans (H2.out rfl)
        clear b1 z1
        go_wp2_with fail
        go_roundw
        case rel => exact ⟨k + 1, by omega, by go_num, HE.out, HK2.out⟩
        case measure => simp [intOf]; omega
    · have HE : Hid (R = (c.order.length : Int) + 1 + x) := HA.out.trans (HEND.out k hlt)
      go_wp2_with fail
      go_ret
      exact ⟨ret_int HE.out.symm, HK.out.trans HKR.out⟩
end Go.Proofs.Ythbnahagfojfbaa

/- value of publisherref25. Conditions: lengths. -/
set_option linter.all false
namespace Go.Proofs.Ythbnahagfojfbaa
open Go.RowKit

/-- What is left of the search for a letter's rule. -/
def vlAt (c : ColT) (x : Int) (k : Nat) : Option (List Int) := ((c.ranks.drop k).find? fun p => ptsL p.1 == [x]).map fun p => ptsL p.2
theorem vlAt_zero (c : ColT) (x : Int) : valI c x = vlAt c x 0 := rfl
theorem vlAt_drop {c : ColT} {k : Nat} {p : Pr} (h : c.ranks[k]? = some p) : c.ranks.drop k = p :: c.ranks.drop (k + 1) := by
  obtain ⟨hk, rfl⟩ := List.getElem?_eq_some_iff.1 h
  exact List.drop_eq_getElem_cons hk
theorem vlAt_hit (c : ColT) (x : Int) (k : Nat) (p : Pr) (h : c.ranks[k]? = some p) (hc : ptsL p.1 = [x]) : vlAt c x k = some (ptsL p.2) := by
  unfold vlAt
  rw [vlAt_drop h, List.find?_cons_of_pos (by simpa using hc)]; rfl
theorem vlAt_miss (c : ColT) (x : Int) (k : Nat) (p : Pr) (h : c.ranks[k]? = some p) (hc : ptsL p.1 ≠ [x]) : vlAt c x k = vlAt c x (k + 1) := by
  unfold vlAt
  rw [vlAt_drop h, List.find?_cons_of_neg (by simpa using hc)]
theorem vlAt_end (c : ColT) (x : Int) (k : Nat) (h : ¬ k < c.ranks.length) : vlAt c x k = none := by
  unfold vlAt
  rw [List.drop_of_length_le (by omega)]; rfl
def ValP (r : Option (List Int)) (w : World) (e : Ending) (w' : World) : Prop := ∃ v, e = .returned (.tuple #[v, .bool r.isSome]) ∧ Ints w' v (r.getD []) ∧ (∀ g, v.ownBlock = .some g → w.heap.size ≤ g) ∧ Kept w w'
theorem ValP.some {xs : List Int} {w w' : World} {v : Value} {r : Option (List Int)} (h : r = .some xs) (hi : Ints w' v xs) (ho : ∀ g, v.ownBlock = .some g → w.heap.size ≤ g) (k : Kept w w') : ValP r w (.returned (.tuple #[v, .bool true])) w' := by
  subst h; exact ⟨v, rfl, hi, ho, k⟩
theorem ValP.none {w w' : World} {r : Option (List Int)} (h : r = .none) (k : Kept w w') : ValP r w (.returned (.tuple #[.slice .none 0 0, .bool false])) w' := by
  subst h; exact ⟨_, rfl, ⟨.none, 0, rfl, Nat.le_refl _, fun q => absurd q (by simp)⟩, (fun g hg => by cases hg), k⟩
set_option maxRecDepth 100000 in
set_option maxHeartbeats 3200000 in
theorem rvalue_any (vR vO : Value) (c : ColT) (x : Int) (w : World) (hv : Col w vR vO c) (hs : SmallC c) (hx0 : 0 ≤ x) (hx1 : x ≤ 1114111) :
    Calls Try.prog 35 #[colV vR vO c.ignore, .int .i64 x] w (ValP (valI c x) w) := by
  obtain ⟨hR, hO⟩ := hv
  obtain ⟨s1, s2, s3, s4, s5⟩ := hs
  have HS5 := Lib.hid s5
  clear s4 s5
  have HR := Lib.hid hR
  obtain ⟨aR, cR, rfl, lR⟩ := hR.form
  obtain ⟨aO, cO, rfl, lO⟩ := hO.form
  clear hR hO
  have HB1 := Lib.hid (Blk.new w 26 #[.slice aR c.ranks.length cR, .slice aO c.order.length cO, .string (bs c.ignore)])
  have HK := Lib.hid (kept_alloc w (.cells #[.slice aR c.ranks.length cR, .slice aO c.order.length cO, .string (bs c.ignore)] 26))
  have H0 := Lib.hid (vlAt_zero c x)
  have HHIT := Lib.hid (vlAt_hit c x)
  have HMISS := Lib.hid (vlAt_miss c x)
  have HEND := Lib.hid (vlAt_end c x)
  obtain ⟨R, HRR⟩ : ∃ R, Hid (valI c x = R) := ⟨_, rfl⟩
  rw [HRR.out] at H0 ⊢
  clear HRR
  go_enter Try.func35, Try.ntmps35
  go_wp2_with fail
  generalize w.alloc (.cells #[.slice aR c.ranks.length cR, .slice aO c.order.length cO, .string (bs c.ignore)] 26) = w0 at *
  generalize w.heap.size = B at *
  go_loopw [6] (fun i wr => ∃ k : Nat, k ≤ c.ranks.length ∧ i = .int .i64 k ∧ Hid (R = vlAt c x k) ∧ Hid (Kept w0 wr)) (fun i _ => c.ranks.length - (intOf i).toNat)
  case atStart => exact ⟨0, Nat.zero_le _, rfl, H0.out, Kept.refl _⟩
  case round =>
    obtain ⟨k, hk, rfl, HA, HKR⟩ := hrel
    have b1 : wr.cell? ⟨B, 0, none⟩ = some (.slice aR c.ranks.length cR) := (HB1.out.kept HKR.out).cell 0 _ rfl
    have z1 := (HB1.out.kept HKR.out).lt
    by_cases hlt : k < c.ranks.length
    · obtain ⟨p, hx⟩ : ∃ x, c.ranks[k]? = some x := ⟨_, List.getElem?_eq_getElem hlt⟩
      obtain ⟨g, o, rfl, hg, d0, d1, -, -⟩ := (HR.out.kept (HK.out.trans HKR.out)).cell_of k p hx
      obtain ⟨hsl1, hsl2⟩ := HS5.out p (List.mem_of_getElem? hx)
      have HLT := Lib.hid (fun w => rletters_any p.1 w (by omega))
      have HLT2 := Lib.hid (fun w => rletters_own p.2 w (by omega))
      have hpl := ptsL_len p.1
      have H1 := Lib.hid (HHIT.out k p hx)
      have H2 := Lib.hid (HMISS.out k p hx)
      have HCC : Hid (∀ w', Kept wr w' → (w'.cell? ⟨B, 0, none⟩ = some (.slice (some ⟨g, o, none⟩) c.ranks.length cR) ∧ B < w'.heap.size) ∧ w'.cell? ⟨g, o + k * 2 + 1, none⟩ = some (.string (bs p.2)) ∧ g < w'.heap.size) := fun w' h =>
        ⟨⟨(h.cell (p := ⟨B, 0, none⟩) z1).trans b1, Nat.lt_of_lt_of_le z1 h.size⟩, (h.cell (p := ⟨g, o + k * 2 + 1, none⟩) hg).trans d1, Nat.lt_of_lt_of_le hg h.size⟩
      clear hx
      generalize ptsL p.1 = L at *
      generalize ptsL p.2 = L2 at *
      go_wp2_with fail
      refine (HLT.out _).mono ?_
      rintro e w2 ⟨v2, rfl, hi2, hk2⟩
      have HI2 := Lib.hid hi2
      obtain ⟨a2, c2, rfl, -⟩ := hi2.form
      have HK2 := Lib.hid (HKR.out.trans hk2)
      obtain ⟨⟨b1', z1'⟩, d1', hg'⟩ := HCC.out _ hk2
      clear hi2 hk2 b1 z1 d0 d1 hg HCC
      match L with
      | [] =>
        have HE : Hid (R = vlAt c x (k + 1)) := HA.out.trans (H2.out (by simp))
        clear b1' z1' d1' hg'
        go_wp2_with fail
        go_roundw
        case rel => exact ⟨k + 1, by omega, by go_num, HE.out, HK2.out⟩
        case measure => simp [intOf]; omega
      | [y] =>
        obtain ⟨g2, o2, rfl, hg2, e0⟩ := HI2.out.cell_of 0 y rfl
        simp only [Nat.add_zero] at e0
        by_cases hy : y = x
        · subst hy
          have HE : Hid (R = some L2) := HA.out.trans (H1.out rfl)
          go_wp2_with fail
          refine (HLT2.out _).mono ?_
          rintro e w3 ⟨v3, rfl, hi3, ho3, hk3⟩
          have HI3 := Lib.hid hi3
          have HO3 := Lib.hid (fun g hg => Nat.le_trans (HK.out.trans HK2.out).size (ho3 g hg))
          obtain ⟨a3, c3, rfl, -⟩ := hi3.form
          have HK3 := Lib.hid (HK2.out.trans hk3)
          clear hi3 ho3 hk3
          go_wp2_with fail
          go_ret2
          exact ValP.some HE.out HI3.out HO3.out (HK.out.trans HK3.out)
        · have hy' : (y == x) = false := by simpa using hy
          have HE : Hid (R = vlAt c x (k + 1)) := HA.out.trans (H2.out (by simpa using hy))
          clear b1' z1' d1' hg'
          go_wp2_with fail
          go_roundw
          case rel => exact ⟨k + 1, by omega, by go_num, HE.out, HK2.out⟩
          case measure => simp [intOf]; omega
      | y :: z :: r =>
        have HE : Hid (R = vlAt c x (k + 1)) := HA.out.trans (H2.out (by simp))
        have hne : ((r.length : Int) + 1 + 1 == 1) = false := by rw [beq_eq_false_iff_ne]; omega
        clear b1' z1' d1' hg'
        simp only [List.length_cons]
        go_wp2_with fail
        go_roundw
        case rel => exact ⟨k + 1, by omega, by go_num, HE.out, HK2.out⟩
        case measure => simp [intOf]; omega
    · have HE : Hid (R = none) := HA.out.trans (HEND.out k hlt)
      go_wp2_with fail
      go_ret2
      exact ValP.none HE.out (HK.out.trans HKR.out)
end Go.Proofs.Ythbnahagfojfbaa

/- Key of publisherref25. Conditions: lengths. -/
set_option linter.all false
namespace Go.Proofs.Ythbnahagfojfbaa
open Go.RowKit

theorem Ints.apart {S : Nat → Prop} {w w' : World} {v : Value} {xs : List Int} (h : Ints w v xs) (k : Only S w w') (hs : ∀ g, v.ownBlock = some g → ¬ S g) : Ints w' v xs := by
  obtain ⟨a, c, hv, hc, h3⟩ := h
  refine ⟨a, c, hv, hc, fun q => ?_⟩
  obtain ⟨g, o, ha, hg, hcell⟩ := h3 q
  have hn : ¬ S g := hs g (by rw [hv, ha]; rfl)
  exact ⟨g, o, ha, Nat.lt_of_lt_of_le hg k.size, fun j x hx => (k.cell g _ hg hn).trans (hcell j x hx)⟩
set_option maxRecDepth 100000 in
theorem step_append_ints2 (w : World) {ops : Array Oper} {o : Oper} {a : Act} {K : Act → World → Prop} {Q : Exit → Act → World → Prop} {E : Prop} (hgd : o.guard = none) (s x : Operand)
    (ho : o.op = .call { callee := .builtin .append, args := #[s, x], argTypes := #[62, 62] })
    (base : Nat) (v : Value) (ps : List Int) (hs : a.eval s = v) (hown : w.ownsRow base 3 1 v ps.length (intC ps)) (u : Value) (qs : List Int) (hx : a.eval x = u) (hu : Ints w u qs) (hq : 0 < qs.length)
    (hb : ps.length + qs.length ≤ 10000000) (hbase : base ≤ w.heap.size)
    (h : ∀ v' w', w'.ownsRow base 3 1 v' (ps ++ qs).length (intC (ps ++ qs)) → w.grownBy w' v.ownBlock → (∀ g, v'.ownBlock = some g → v.ownBlock = some g ∨ g = w.heap.size) → K (a.put o.dst v') w') :
    if Region.wanted o (yielded ops a.tmps) = true then Oper.wp Try.prog o a w K Q else E := by
  obtain ⟨i0, hi, hz0, hz1, hz2⟩ := info_parts Try.infoInt
  obtain ⟨a', c', rfl, hc, h3⟩ := hu
  obtain ⟨g, o2, rfl, _, hcell⟩ := h3 hq
  refine step_append_lies w hgd s x 62 ho base 3 i0 (.int .i64 0) 1 8 Try.underlying62 hi hz0 hz1 hz2 rfl (by decide) v ps.length (intC ps) hs hown ⟨g, o2, none⟩ qs.length c' (intC qs) hx (by simp [intC_length]) (fun j u hu => ?_) (intC_one qs) hq (by unfold maxLen; omega) (by omega) hbase w.heap.size rfl (fun g' cap w' h1 h2 h4 _ => h _ w' ?_ h2 (fun g hg => ?_))
  · rw [addr_at]
    obtain ⟨y, hy, rfl⟩ := intC_back qs j u hu
    exact hcell j y hy
  · rw [List.length_append, intC_app]; exact h1
  · cases hg; exact h4
theorem keyS {w4 w8 : World} {B gy oy j n c8 : Nat} {vR vO vI : Value} {ys : List Int} {y : Int} (hb : Blk w4 B 26 #[vR, vO, vI]) (k : Kept w4 w8) (hi : Ints w8 (.slice (some ⟨gy, oy, none⟩) n c8) ys) (hy : ys[j]? = some y) :
    (w8.cell? ⟨B, 0, none⟩ = some vR ∧ w8.cell? ⟨B, 1, none⟩ = some vO ∧ w8.cell? ⟨B, 2, none⟩ = some vI ∧ w8.cell? ⟨gy, oy + j, none⟩ = some (.int .i64 y)) ∧ (B < w8.heap.size ∧ gy < w8.heap.size) ∧ Kept w4 w8 := by
  obtain ⟨g, o, he, hg, d⟩ := hi.cell_of j y hy
  cases he
  exact ⟨⟨(hb.kept k).cell 0 _ rfl, (hb.kept k).cell 1 _ rfl, (hb.kept k).cell 2 _ rfl, d⟩, ⟨(hb.kept k).lt, hg⟩, k⟩
set_option maxRecDepth 100000 in
set_option maxHeartbeats 6400000 in
theorem rkey_any (vR vO : Value) (c : ColT) (s : Bs) (w : World) (hv : Col w vR vO c) (hs : SmallC c) (hl : s.length ≤ 1000) :
    Calls Try.prog 18 #[colV vR vO c.ignore, .string (bs s)] w (IntsP (keyI c s) w) := by
  obtain ⟨i0, hi, hz0, hz1, hz2⟩ := info_parts Try.infoInt
  have HV := Lib.hid hv
  have HSM := Lib.hid hs
  have s3 := hs.2.2.1
  have HLS := Lib.hid (fun w => rletters_any s w (by omega))
  have HLI := Lib.hid (fun w => rletters_any c.ignore w (by omega))
  have H0 : Hid (keyI c s = [] ++ ((ptsL s).drop 0).flatMap (keyI1 c)) := rfl
  have hpl := ptsL_len s
  have HPR := Lib.hid (fun x hx => pts_range s x hx)
  have hpi := ptsL_len c.ignore
  obtain ⟨aR, cR, rfl, lR⟩ := hv.1.form
  obtain ⟨aO, cO, rfl, lO⟩ := hv.2.form
  clear hv hs
  generalize ptsL s = A at *
  have HG1 : Hid (∀ x, keyI1 c x = if (ptsL c.ignore).contains x = true then [] else match valI c x with
    | some v => v.map (rankI c)
    | none => [rankI c x]) := fun x => rfl
  generalize ptsL c.ignore = G at *
  have HB1 := Lib.hid (Blk.new w 26 #[.slice aR c.ranks.length cR, .slice aO c.order.length cO, .string (bs c.ignore)])
  have HK := Lib.hid (kept_alloc w (.cells #[.slice aR c.ranks.length cR, .slice aO c.order.length cO, .string (bs c.ignore)] 26))
  go_enter Try.func18, Try.ntmps18
  go_wp2_with fail
  generalize w.alloc (.cells #[.slice aR c.ranks.length cR, .slice aO c.order.length cO, .string (bs c.ignore)] 26) = w0 at *
  generalize w.heap.size = B at *
  have HCC : Hid (∀ w', Kept w0 w' → w'.cell? ⟨B, 2, none⟩ = some (.string (bs c.ignore)) ∧ B < w'.heap.size ∧ Kept w0 w') := fun w' h =>
    ⟨(HB1.out.kept h).cell 2 _ rfl, (HB1.out.kept h).lt, h⟩
  obtain ⟨t2, z0, -⟩ := HCC.out w0 (Kept.refl _)
  have hkd : Kept w0 w0.drew := kept_drewN w0 1
  go_region_held3 (fun w' => w'.cell? ⟨B, 2, none⟩ = some (.string (bs c.ignore)) ∧ B < w'.heap.size ∧ Kept w0 w')
    ((refine HCC.out _ ?_; assumption))
    (first
      | (go_at_call_of 33 (Value.string (bs c.ignore)); refine (HLI.out _).mono ?_; rintro e w4 ⟨v6, rfl, hi6, hk4⟩; have k4 := k3.trans hk4; have HI5 := Lib.hid (HI3.out.kept hk4); have HI6 := Lib.hid hi6; obtain ⟨a6, c6, rfl, l6⟩ := hi6.form; clear hk4 hi6)
      | (go_at_call_of 33 (Value.string (bs s)); refine (HLS.out _).mono ?_; rintro e w3 ⟨v5, rfl, hi5, hk3⟩; have k3 : Kept w0 w3 := hkd.trans hk3; have HI3 := Lib.hid hi5; obtain ⟨a5, c5, rfl, l5⟩ := hi5.form; clear hk3 hi5))
  all_goals
    clear HCC t2 z0 hkd
    go_wp2_with fail
    have HK4 := Lib.hid (HK.out.trans k4)
    have HB4 := Lib.hid (HB1.out.kept k4)
    have hz4 := HB4.out.lt
    clear k3 HI3 HB1
    go_loopw [7, 8] (fun v i wr => ∃ (k : Nat) (xs : List Int), k ≤ A.length ∧ i = .int .i64 k ∧ xs.length ≤ 1000 * k ∧ wr.ownsRow w4.heap.size 3 1 v xs.length (intC xs) ∧ Hid (keyI c s = xs ++ (A.drop k).flatMap (keyI1 c)) ∧ Hid (Kept w4 wr)) (fun _ i _ => A.length - (intOf i).toNat)
    case atStart => exact ⟨0, [], Nat.zero_le _, rfl, by simp, World.ownsRow_nil _ _ _ _, H0.out, Kept.refl _⟩
    case round =>
      obtain ⟨k, xs, hk, rfl, hxl, hown, HA, HKR⟩ := hrel
      have HOWN := Lib.hid hown
      by_cases hlt : k < A.length
      · obtain ⟨x, hx⟩ : ∃ z, A[k]? = some z := ⟨_, List.getElem?_eq_getElem hlt⟩
        obtain ⟨g, o, rfl, hg, d0⟩ := (HI5.out.kept HKR.out).cell_of k x hx
        have HXR := Lib.hid (HPR.out x (List.mem_of_getElem? hx))
        have HD : Hid (keyI c s = xs ++ keyI1 c x ++ (A.drop (k + 1)).flatMap (keyI1 c)) := by
          show _ = _
          obtain ⟨hk', rfl⟩ := List.getElem?_eq_some_iff.1 hx
          rw [HA.out, List.drop_eq_getElem_cons hk', List.flatMap_cons, List.append_assoc]
        clear hx hown
        go_wp2_with fail
        refine (rin_any _ G x _ (HI6.out.kept HKR.out) (by omega)).mono ?_
        rintro e w5 ⟨rfl, rfl⟩
        obtain ⟨hx0, hx1⟩ : 0 ≤ x ∧ x ≤ 1114111 := by have := HXR.out; exact ⟨this.1, this.2.1⟩
        have HVA := Lib.hid (fun w h => rvalue_any (.slice aR c.ranks.length cR) (.slice aO c.order.length cO) c x w h HSM.out hx0 hx1)
        have HK1 : Hid (keyI1 c x = if G.contains x = true then [] else match valI c x with
          | some v => v.map (rankI c)
          | none => [rankI c x]) := HG1.out x
        cases hc : G.contains x with
        | true =>
          rw [hc, if_pos rfl] at HK1
          have HD2 : Hid (keyI c s = xs ++ (A.drop (k + 1)).flatMap (keyI1 c)) := by
            show _ = _
            rw [HD.out, HK1.out, List.append_nil]
          have hown := HOWN.out
          clear HOWN hc
          go_wp2_with fail
          go_roundw
          case rel => exact ⟨k + 1, xs, by omega, by go_num, by omega, hown, HD2.out, HKR.out⟩
          case measure => simp [intOf]; omega
        | false =>
          rw [hc, if_neg (by simp)] at HK1
          have HCC : Hid (∀ w', Kept wr w' → (w'.cell? ⟨B, 0, none⟩ = some (.slice aR c.ranks.length cR) ∧ w'.cell? ⟨B, 1, none⟩ = some (.slice aO c.order.length cO) ∧ w'.cell? ⟨B, 2, none⟩ = some (.string (bs c.ignore)) ∧ w'.cell? ⟨g, o + k, none⟩ = some (.int .i64 x)) ∧ (B < w'.heap.size ∧ g < w'.heap.size) ∧ Kept wr w') := fun w' h =>
            ⟨⟨((HB4.out.kept HKR.out).kept h).cell 0 _ rfl, ((HB4.out.kept HKR.out).kept h).cell 1 _ rfl, ((HB4.out.kept HKR.out).kept h).cell 2 _ rfl, (h.cell (p := ⟨g, o + k, none⟩) hg).trans d0⟩, ⟨((HB4.out.kept HKR.out).kept h).lt, Nat.lt_of_lt_of_le hg h.size⟩, h⟩
          obtain ⟨⟨t0, t1, t2, -⟩, ⟨z0, -⟩, -⟩ := HCC.out wr (Kept.refl _)
          have hkd : Kept wr wr.drew := kept_drewN wr 1
          have HVR := Lib.hid ((HV.out.kept HK4.out).kept HKR.out)
          clear hc
          go_wp2_with fail
          go_region_held3 (fun w' => (w'.cell? ⟨B, 0, none⟩ = some (.slice aR c.ranks.length cR) ∧ w'.cell? ⟨B, 1, none⟩ = some (.slice aO c.order.length cO) ∧ w'.cell? ⟨B, 2, none⟩ = some (.string (bs c.ignore)) ∧ w'.cell? ⟨g, o + k, none⟩ = some (.int .i64 x)) ∧ (B < w'.heap.size ∧ g < w'.heap.size) ∧ Kept wr w')
            ((refine HCC.out _ ?_; assumption))
            (first
              | (go_at_call 35; refine (HVA.out _ (HVR.out.kept hkd)).mono ?_; rintro e w6 ⟨v6, rfl, hi6, ho6, hk6⟩; have k6 : Kept wr w6 := hkd.trans hk6; have HI7 := Lib.hid hi6; have HO7 : Hid (∀ g, v6.ownBlock = some g → wr.heap.size ≤ g) := ho6; obtain ⟨a7, c7, rfl, l7⟩ := hi6.form; clear hk6 hi6 ho6))
          all_goals
            obtain ⟨⟨q0, q1, q2, q3⟩, ⟨y0, y1⟩, -⟩ := HCC.out w6 k6
            have HOW6 := Lib.hid (own_kept HOWN.out k6)
            have HOL := Lib.hid (fun g hg => (HOWN.out.lt g hg).2)
            have HSZ6 := Lib.hid k6.size
            have HKW6 := Lib.hid (HKR.out.trans k6)
            clear HCC t0 t1 t2 z0 hkd hg d0 HOWN
            cases hval : valI c x
            case' none =>
              rw [hval] at HK1
              have HKX : Hid (keyI1 c x = [x].map (rankI c)) := HK1
              have HYR : Hid (∀ y ∈ [x], 0 ≤ y ∧ y ≤ 1114111) := fun y hy => by
                rcases List.mem_singleton.1 hy with rfl
                exact ⟨hx0, hx1⟩
              have HYL : Hid ([x].length ≤ 1000) := by show _ ≤ _; simp
              clear HK1 HVA HVR hval HI7 HO7 l7
              (try simp only [Option.isSome_none, Option.getD_none, List.length_nil])
              go_wp2_with fail
              have HI8 := Lib.hid (new_int w6 x)
              have HKA := Lib.hid (kept_alloc w6 (.cells #[.int .i64 x] 3))
              obtain ⟨V, HVV⟩ : ∃ V, Hid (Value.slice (some ⟨w6.heap.size, 0, none⟩) 1 1 = V) := ⟨_, rfl⟩
              have HO8 : Hid (∀ g, V.ownBlock = some g → wr.heap.size ≤ g) := fun g hg => by
                rw [← HVV.out] at hg
                cases hg; exact HSZ6.out
              rw [HVV.out] at HI8 ⊢
              obtain ⟨ys, HYS⟩ : ∃ ys, Hid ([x] = ys) := ⟨_, rfl⟩
              rw [HYS.out] at HI8 HKX HYR HYL
              have HKW8 := Lib.hid (HKW6.out.trans HKA.out)
              have HOW8 := Lib.hid (own_kept HOW6.out HKA.out)
              clear q0 q1 q2 q3 y0 y1 HVV HKA HYS HOW6 HKW6 HSZ6
              generalize w6.alloc (.cells #[.int .i64 x] 3) = w8 at *
              obtain ⟨a8, c8, rfl, l8⟩ := HI8.out.form
            case' some ys =>
              rw [hval] at HK1 HI7
              have HKX : Hid (keyI1 c x = ys.map (rankI c)) := HK1
              have HYR : Hid (∀ y ∈ ys, 0 ≤ y ∧ y ≤ 1114111) := fun y hy => ⟨(val_range hval y hy).1, (val_range hval y hy).2.1⟩
              have HYL : Hid (ys.length ≤ 1000) := val_len HSM.out hval
              rw [hval] at HO7 l7
              simp only [Option.getD_some] at HI7 HO7 l7
              obtain ⟨a8, rfl⟩ : ∃ a, a = a7 := ⟨_, rfl⟩
              obtain ⟨c8, rfl⟩ : ∃ a, a = c7 := ⟨_, rfl⟩
              obtain ⟨w8, rfl⟩ : ∃ a, a = w6 := ⟨_, rfl⟩
              have HI8 : Hid (Ints w8 (.slice a8 ys.length c8) ys) := HI7.out
              have HO8 : Hid (∀ g, (Value.slice a8 ys.length c8).ownBlock = some g → wr.heap.size ≤ g) := HO7.out
              have HKW8 := HKW6
              have HOW8 := HOW6
              clear HK1 HVA HVR hval HI7 HO7 q0 q1 q2 q3 y0 y1 HOW6 HKW6 HSZ6
              (try simp only [Option.isSome_some, Option.getD_some])
              go_wp2_with fail
            all_goals
              have HAP0 : Hid (∀ g, u7.ownBlock = some g → (Value.slice a8 ys.length c8).ownBlock ≠ some g) := fun g hg q => absurd (HOL.out g hg) (Nat.not_lt.2 (HO8.out g q))
              clear HOL HO8
              go_loopw [7, 11] (fun v i wr2 => ∃ (j : Nat) (zs : List Int), j ≤ ys.length ∧ i = .int .i64 j ∧ zs.length = xs.length + j ∧ wr2.ownsRow w4.heap.size 3 1 v zs.length (intC zs) ∧ Hid (zs = xs ++ (ys.take j).map (rankI c)) ∧ Hid (Ints wr2 (.slice a8 ys.length c8) ys) ∧ Hid (∀ g, v.ownBlock = some g → (Value.slice a8 ys.length c8).ownBlock ≠ some g) ∧ Hid (Kept w4 wr2)) (fun _ i _ => ys.length - (intOf i).toNat)
              case atStart => exact ⟨0, xs, Nat.zero_le _, rfl, rfl, HOW8.out, by show _ = _; simp, HI8.out, HAP0.out, HKW8.out⟩
              case round =>
                clear HOW8 HI8 HAP0 HKW8
                obtain ⟨j, zs, hj, rfl, hzl, hown, HZ, HIY, HAP, HK2⟩ := hrel
                have HOWN := Lib.hid hown
                by_cases hlt2 : j < ys.length
                · obtain ⟨y, hy⟩ : ∃ y, ys[j]? = some y := ⟨_, List.getElem?_eq_getElem hlt2⟩
                  obtain ⟨gy, oy, rfl, hgy, dy⟩ := HIY.out.cell_of j y hy
                  have HY := Lib.hid hy
                  obtain ⟨hy0, hy1⟩ := HYR.out y (List.mem_of_getElem? hy)
                  have HZ2 : Hid (zs ++ [rankI c y] = xs ++ (ys.take (j + 1)).map (rankI c)) := by
                    show _ = _
                    obtain ⟨hj', rfl⟩ := List.getElem?_eq_some_iff.1 hy
                    rw [List.take_succ_eq_append_getElem hj', HZ.out, List.map_append, List.append_assoc]; rfl
                  have HRX := Lib.hid (fun w h => rrank_any (.slice aR c.ranks.length cR) (.slice aO c.order.length cO) c y w h HSM.out hy0 hy1)
                  generalize rankI c y = r at HZ2 HRX
                  have HVR := Lib.hid ((HV.out.kept HK4.out).kept HK2.out)
                  have HCC : Hid (∀ w', Kept wr w' → (w'.cell? ⟨B, 0, none⟩ = some (.slice aR c.ranks.length cR) ∧ w'.cell? ⟨B, 1, none⟩ = some (.slice aO c.order.length cO) ∧ w'.cell? ⟨B, 2, none⟩ = some (.string (bs c.ignore)) ∧ w'.cell? ⟨gy, oy + j, none⟩ = some (.int .i64 y)) ∧ (B < w'.heap.size ∧ gy < w'.heap.size) ∧ Kept w4 w') := fun w' h =>
                    ⟨⟨((HB4.out.kept HK2.out).kept h).cell 0 _ rfl, ((HB4.out.kept HK2.out).kept h).cell 1 _ rfl, ((HB4.out.kept HK2.out).kept h).cell 2 _ rfl, (h.cell (p := ⟨gy, oy + j, none⟩) hgy).trans dy⟩, ⟨((HB4.out.kept HK2.out).kept h).lt, Nat.lt_of_lt_of_le hgy h.size⟩, HK2.out.trans h⟩
                  obtain ⟨⟨t0, t1, t2, -⟩, ⟨z0, -⟩, -⟩ := HCC.out wr (Kept.refl _)
                  have hkd : Kept wr wr.drew := kept_drewN wr 1
                  have HYL2 := HYL.out
                  have HGY := Lib.hid hgy
                  have hkw := HK2.out.size
                  clear hy hown
                  go_wp2_with fail
                  go_region_held3 (fun w' => (w'.cell? ⟨B, 0, none⟩ = some (.slice aR c.ranks.length cR) ∧ w'.cell? ⟨B, 1, none⟩ = some (.slice aO c.order.length cO) ∧ w'.cell? ⟨B, 2, none⟩ = some (.string (bs c.ignore)) ∧ w'.cell? ⟨gy, oy + j, none⟩ = some (.int .i64 y)) ∧ (B < w'.heap.size ∧ gy < w'.heap.size) ∧ Kept w4 w')
                    (first | exact HS8.out | (refine HCC.out _ ?_; first | assumption | (refine Kept.trans ?_ (kept_alloc _ _); assumption)))
                    (first
                      | (refine step_append_ints2 _ rfl (.tmp 51) (.tmp 58) rfl w4.heap.size _ zs (by simp [Act.eval, Act.put]) ((own_kept HOWN.out k7).alloc _) _ [r] (by simp [Act.eval, Act.put]) (new_int _ r) (by simp) (by simp; omega) (Nat.le_trans hkw (k7.trans (kept_alloc _ _)).size) ?_; intro v2 w8 hown2 hgrow2 hloc2; have HO2 := Lib.hid hown2; have HG2 := Lib.hid hgrow2; have HL2 := Lib.hid hloc2; have HK8 := Lib.hid (((HK2.out.trans k7).trans (kept_alloc w7 (.cells #[.int .i64 r] 3))).trans' (grown_below ((own_kept HOWN.out k7).alloc _) HG2.out (Nat.le_trans hkw (k7.trans (kept_alloc _ _)).size))); have HIY2 := Lib.hid (((HIY.out.kept k7).kept (kept_alloc w7 (.cells #[.int .i64 r] 3))).apart (Only.grown HG2.out) (fun g hg q => HAP.out g q.symm hg)); have HS8 := Lib.hid (keyS HB4.out HK8.out HIY2.out HY.out); clear hown2 hgrow2 hloc2)
                      | (go_at_call 36; refine (HRX.out _ (HVR.out.kept hkd)).mono ?_; rintro e w7 ⟨rfl, hk7⟩; have k7 : Kept wr w7 := hkd.trans hk7; clear hk7))
                  all_goals
                    have HAP2 : Hid (∀ g, v2.ownBlock = some g → (Value.slice (some ⟨gy, oy, none⟩) ys.length c8).ownBlock ≠ some g) := fun g hg q => by
                      rcases HL2.out g hg with h | h
                      · exact HAP.out g h q
                      · have h1 : gy = g := by simpa [Value.ownBlock] using q
                        have h2 := HGY.out
                        have h3 := k7.size
                        simp at h
                        omega
                    clear HCC t0 t1 t2 z0 hkd HG2 HL2 HOWN HIY HAP hgy dy
                    go_wp2_with fail
                    go_roundw
                    case rel => exact ⟨j + 1, zs ++ [r], by omega, by go_num, by simp; omega, HO2.out, HZ2.out, HIY2.out, HAP2.out, HK8.out⟩
                    case measure => simp [intOf]; omega
                · obtain rfl : j = ys.length := by omega
                  rw [List.take_of_length_le (Nat.le_refl _)] at HZ
                  have HZ3 : Hid (keyI c s = zs ++ (A.drop (k + 1)).flatMap (keyI1 c)) := by
                    show _ = _
                    rw [HD.out, HKX.out, HZ.out]
                  have HYL2 := HYL.out
                  clear hown
                  go_wp2_with fail
                  go_roundw
                  case rel => exact ⟨k + 1, zs, by omega, by go_num, by omega, HOWN.out, HZ3.out, HK2.out⟩
                  case measure => simp [intOf]; omega
      · have HL : Hid (keyI c s = xs) := by
          show _ = _
          rw [HA.out, List.drop_of_length_le (by omega)]; simp
        have HI := Lib.hid (Ints.own hown)
        clear hown
        go_wp2_with fail
        go_ret
        exact ⟨_, rfl, by rw [HL.out]; exact HI.out, HK4.out.trans HKR.out⟩
end Go.Proofs.Ythbnahagfojfbaa
