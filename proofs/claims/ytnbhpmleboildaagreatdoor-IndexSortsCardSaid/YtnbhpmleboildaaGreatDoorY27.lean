/- index.filled: blocks in which each directive index is replaced. Conditions: lengths. -/
import Derived.Test.YtnbhpmleboildaaGreatDoorY26
import Derived.Test.YtnbhpmleboildaaGreatDoorY13
import Derived.Test.YtnbhpmleboildaaGreatDoorY10
import Derived.Test.YtnbhpmleboildaaGreatDoorY08
import Derived.Test.YtnbhpmleboildaaGreatDoorY11
import Derived.Test.YtnbhpmleboildaaGreatDoorY19
import Derived.Deep.CutRange
import Derived.OrdersIn
import Derived.RangeFuncNested
import Derived.RangeFuncBound
import Derived.RangeFuncCalls
import Derived.RangeFuncLeaves
import Derived.Shelf.Abstract
import Derived.Shelf.RegionOpen
import Derived.WalkKit
import Derived.OwnWalkIn
import Derived.TacticsInMore
import Derived.LoopNIn
import Derived.LoopIn
import Derived.Deep.MidRow
import Derived.Laws.EntriesVeiled

set_option linter.all false
namespace Go.Proofs.YtnbhpmleboildaaGreatDoor
open Go.RowKit

def isIx (x : Blo) : Prop := x.kind = 13 ∧ x.info = kIndex
instance (x : Blo) : Decidable (isIx x) := by unfold isIx; exact inferInstance
def noIx (ys : List Blo) : Prop := ∀ z ∈ listL ys, ¬ isIx z
/-- What stands at the top: the kind, and for a list of entries how many groups it holds. -/
def sig1 (es : List Ent) (x : Blo) : List (Int × Nat) := if isIx x then (if es = [] then [] else [(7, hdN es es.length)]) else [(x.kind, 0)]
def sigL (es : List Ent) (xs : List Blo) : List (Int × Nat) := xs.flatMap (sig1 es)
def Sig (ys : List Blo) (ss : List (Int × Nat)) : Prop := ys.length = ss.length ∧ ∀ (i : Nat) (y : Blo) (s : Int × Nat), ys[i]? = some y → ss[i]? = some s → y.kind = s.1 ∧ (s.2 ≠ 0 → y.kids.length = s.2)
theorem Sig.app {a b : List Blo} {s t : List (Int × Nat)} (h : Sig a s) (k : Sig b t) : Sig (a ++ b) (s ++ t) := by
  refine ⟨by rw [List.length_append, List.length_append, h.1, k.1], fun i y u hy hu => ?_⟩
  rcases Nat.lt_or_ge i a.length with q | q
  · rw [List.getElem?_append_left q] at hy
    rw [List.getElem?_append_left (by rw [← h.1]; exact q)] at hu
    exact h.2 i y u hy hu
  · rw [List.getElem?_append_right q] at hy
    rw [List.getElem?_append_right (by rw [← h.1]; exact q)] at hu
    exact k.2 (i - a.length) y u hy (by rw [h.1]; exact hu)
theorem Sig.nil : Sig [] [] := ⟨rfl, fun i y s h => by simp at h⟩
theorem Sig.one {y : Blo} {s : Int × Nat} (h1 : y.kind = s.1) (h2 : s.2 ≠ 0 → y.kids.length = s.2) : Sig [y] [s] := ⟨rfl, fun i z u hz hu => by
  match i, hz, hu with
  | 0, hz, hu => cases hz; cases hu; exact ⟨h1, h2⟩
  | i + 1, hz, hu => simp at hz⟩
theorem sigL_take {es : List Ent} {xs : List Blo} {k : Nat} {x : Blo} (h : xs[k]? = some x) : sigL es (xs.take (k + 1)) = sigL es (xs.take k) ++ sig1 es x := by
  unfold sigL; rw [take_snoc h, List.flatMap_append, List.flatMap_cons, List.flatMap_nil, List.append_nil]
theorem sigL_len (es : List Ent) : ∀ xs : List Blo, (sigL es xs).length ≤ xs.length
  | [] => Nat.le_refl _
  | x :: xs => by
    have h := sigL_len es xs
    have h1 : (sig1 es x).length ≤ 1 := by
      unfold sig1
      split
      · split <;> simp
      · simp
    unfold sigL at h ⊢
    rw [List.flatMap_cons, List.length_append, List.length_cons]; omega
theorem noIx_nil : noIx [] := fun z hz => (List.not_mem_nil hz).elim
theorem noIx_app {a b : List Blo} (h : noIx a) (k : noIx b) : noIx (a ++ b) := fun z hz => by
  rw [listL_app] at hz
  exact (List.mem_append.1 hz).elim (h z) (k z)
theorem noIx_one {y : Blo} (h : ¬ isIx y) (k : noIx y.kids) : noIx [y] := fun z hz => by
  have e : listL [y] = y :: listL y.kids := by show list1 y ++ [] = _; rw [List.append_nil, list1_eq]
  rw [e] at hz
  rcases List.mem_cons.1 hz with rfl | q
  · exact h
  · exact k z q
theorem noIx_cons {y : Blo} {ys : List Blo} (h : noIx [y]) (k : noIx ys) : noIx (y :: ys) := noIx_app (a := [y]) h k
theorem noIx_all : ∀ {ys : List Blo}, (∀ y ∈ ys, noIx [y]) → noIx ys
  | [], _ => noIx_nil
  | y :: ys, h => noIx_cons (h y (List.mem_cons_self ..)) (noIx_all fun z hz => h z (List.mem_cons_of_mem _ hz))
theorem bK_no {kind : Int} {line : List Inl} {kids : List Blo} (h : kind ≠ 13) (k : noIx kids) : noIx [bK kind line kids] := noIx_one (fun q => h q.1) k
theorem paraB.no {z : Blo} (h : paraB z) : noIx [z] := by
  obtain ⟨zs, rfl⟩ := h; exact bK_no (by decide) noIx_nil
theorem itemB.no {z : Blo} (h : itemB z) : noIx [z] := by
  obtain ⟨p, hp, rfl⟩ := h; exact bK_no (by decide) hp.no
theorem groupB.no {z : Blo} (h : groupB z) : noIx [z] := by
  obtain ⟨p, more, hp, hm, rfl⟩ := h
  refine bK_no (by decide) (noIx_cons hp.no ?_)
  rcases hm with rfl | ⟨inn, rfl, hi⟩
  · exact noIx_nil
  · exact bK_no (by decide) (noIx_all fun y hy => (hi y hy).no)
theorem listB.no {es : List Ent} {ys : List Blo} (h : listB es ys) : noIx ys := by
  rcases h with ⟨_, rfl⟩ | ⟨its, _, rfl, _, hg, _⟩
  · exact noIx_nil
  · exact bK_no (by decide) (noIx_all fun y hy => (hg y hy).no)
theorem listB.sig {es : List Ent} {ys : List Blo} {x : Blo} (h : listB es ys) (hx : isIx x) : Sig ys (sig1 es x) := by
  unfold sig1
  rw [if_pos hx]
  rcases h with ⟨rfl, rfl⟩ | ⟨its, hne, rfl, hl, _⟩
  · rw [if_pos rfl]; exact Sig.nil
  · rw [if_neg hne]; exact Sig.one rfl (fun _ => hl)
theorem listB.len {es : List Ent} {ys : List Blo} (h : listB es ys) : (listL ys).length ≤ 3 * es.length + 1 := by
  rcases h with ⟨_, rfl⟩ | ⟨its, _, rfl, _, _, hl⟩
  · exact Nat.zero_le _
  · have e : (listL [bK 7 [] its]).length = (listL its).length + 1 := by
      show (bK 7 [] its :: (listL its) ++ []).length = _
      simp
    omega
theorem listL_tk {xs : List Blo} {k : Nat} {x : Blo} (h : xs[k]? = some x) : (listL (xs.take (k + 1))).length = (listL (xs.take k)).length + (1 + (listL x.kids).length) := by
  have e : (listL [x]).length = 1 + (listL x.kids).length := by
    show (list1 x ++ []).length = _
    rw [List.append_nil, list1_eq, List.length_cons]; omega
  rw [take_snoc h, listL_app, List.length_append, e]
theorem Bls.upm {S : Nat → Prop} {m m' : Nat} (hm : m ≤ m') : ∀ {n : Nat} {w : World} {v : Value} {xs : List Blo}, Bls S m n w v xs → Bls S m' n w v xs
  | 0, _, _, _, h => h
  | n + 1, w, v, xs, h => RowR.step (S' := S) (show RowR S 11 (BloW S m (Bls S m n) w) w v xs from h) (fun _ _ _ => rfl) (fun _ _ q => q) (fun cs x _ hx => by
    obtain ⟨vC, vP, vL, vK, h1, h2, h3, h4, h5⟩ := hx
    exact ⟨vC, vP, vL, vK, h1, h2, h3, h4.ups hm, Bls.upm hm h5⟩)
/-- The closure by as a value. -/
abbrev byV (E : Nat) : Value := .func (.func 17) #[] #[.pointer (some ⟨E, 0, none⟩)]
def FiP (S : Nat → Prop) (es : List Ent) (N n : Nat) (xs : List Blo) (w : World) (e : Ending) (w' : World) : Prop :=
  ∃ v ys, e = .returned v ∧ Bls (fun g => S g ∨ w.heap.size ≤ g) N (n + 5) w' v ys ∧ noIx ys ∧ Sig ys (sigL es xs) ∧ (listL ys).length ≤ (listL xs).length * (3 * es.length + 2) ∧ Kept w w'
set_option maxRecDepth 100000 in
set_option maxHeartbeats 12800000 in
theorem filled_any (W0 : World) (S : Nat → Prop) (hS : ∀ g, S g → g < W0.heap.size) (E : Nat) (es : List Ent) (hby : ∀ w', Kept W0 w' → Calls Tryz.prog 17 #[.pointer (some ⟨E, 0, none⟩)] w' (ListP es w')) (N : Nat) (hN : 2 ≤ N) : ∀ (n : Nat) (xs : List Blo) (v : Value) (w : World), Bls S N n w v xs → xs.length ≤ 1000000 → okBL xs → Kept W0 w →
    Calls Tryz.prog 16 #[v, byV E] w (FiP S es N n xs w) := by
  intro n
  induction n with
  | zero =>
    intro xs v w hv hl hok hkw
    obtain rfl := hv.no
    obtain ⟨a, c, rfl, hc⟩ := hv.form
    have HFIN : FiP S es N 0 [] w (.returned (.slice none 0 0)) w := ⟨_, [], rfl, Bls.none_ _ _ _ _, noIx_nil, Sig.nil, Nat.zero_le _, Kept.refl w⟩
    generalize hP : FiP S es N 0 [] w = P at *
    clear hv hok hP hS hby hkw
    go_enter Tryz.func16, Tryz.ntmps16
    go_wp2_with fail
    go_loopw [5, 10] (fun o i wr => o = .slice none 0 0 ∧ i = .int .i64 0 ∧ w = wr) (fun _ i _ => 1)
    case atStart => exact ⟨rfl, rfl, rfl⟩
    case round =>
      obtain ⟨rfl, rfl, rfl⟩ := hrel
      go_wp2_with fail
      (try go_ret)
      exact HFIN
  | succ n ih =>
    intro xs v w hv hl hok hkw
    have HV := Lib.hid hv
    have HOK := Lib.hid hok
    have HBY := Lib.hid hby
    unfold ListP at HBY
    have HKW0 := Lib.hid hkw
    have HSL : Hid (∀ g, S g → g < w.heap.size) := fun g q => Nat.lt_of_lt_of_le (hS g q) hkw.size
    have HIH := Lib.hid ih
    unfold FiP at HIH
    have HLN := Lib.hid (sigL_len es)
    have HFIN : Hid (∀ v ys w', OutG (BloK N (n + 5)) 11 (fun g => S g ∨ w.heap.size ≤ g) w.heap.size 38 w' v ys → noIx ys → Sig ys (sigL es (xs.take xs.length)) → (listL ys).length ≤ (listL (xs.take xs.length)).length * (3 * es.length + 2) → Kept w w' → FiP S es N (n + 1) xs w (.returned v) w') := fun v ys w' h1 h2 h3 h5 h4 => ⟨v, ys, rfl, (show Bls (fun g => S g ∨ w.heap.size ≤ g) N (n + 5 + 1) w' v ys from OutG.row (S := fun g => S g ∨ w.heap.size ≤ g) (bloK N (n + 5)) h1 (fun g _ h => h) (fun g h => .inr h)).ups (by omega), h2, by rw [List.take_length] at h3; exact h3, by rw [List.take_length] at h5; exact h5, h4⟩
    obtain ⟨i0, hi, hz0, hz1, hz2⟩ := info_parts Tryz.infoBk4
    obtain ⟨a, c, rfl, hc⟩ := hv.form
    generalize hP : FiP S es N (n + 1) xs w = P at *
    clear hP hv hok ih hkw hS hby
    go_enter Tryz.func16, Tryz.ntmps16
    go_wp2_with fail
    go_loopw [5, 10] (fun o i wr => ∃ (k : Nat) (ys : List Blo), k ≤ xs.length ∧ i = .int .i64 k ∧ Hid (OutG (BloK N (n + 5)) 11 (fun g => S g ∨ w.heap.size ≤ g) w.heap.size 38 wr o ys) ∧ Hid (noIx ys) ∧ Hid (Sig ys (sigL es (xs.take k))) ∧ Hid ((listL ys).length ≤ (listL (xs.take k)).length * (3 * es.length + 2)) ∧ Hid (Kept w wr)) (fun _ i _ => xs.length - (intOf i).toNat)
    case atStart => exact ⟨0, [], Nat.zero_le _, rfl, OutG.nil _ _ _ _ _ _, noIx_nil, Sig.nil, Nat.zero_le _, Kept.refl w⟩
    case round =>
      obtain ⟨k, ys, hk, rfl, HGR, HNO, HSG, HBN, HKR⟩ := hrel
      by_cases hlt : k < xs.length
      · obtain ⟨x, hx⟩ : ∃ x, xs[k]? = some x := ⟨_, List.getElem?_eq_getElem hlt⟩
        have hfit := (okBL_at HOK.out x (List.mem_of_getElem? hx)).fit
        have HTK := Lib.hid (sigL_take (es := es) hx)
        have HTB := Lib.hid (listL_tk hx)
        simp only [Blo.kids] at HTB
        have hyl : ys.length ≤ k := by
          have h1 := HSG.out.1
          have h2 := HLN.out (xs.take k)
          rw [List.length_take] at h2; omega
        obtain ⟨g, o, vC, vP, vL, vK, rfl, hgg, hgS, -, -, ⟨d0, d1, d2, d3, d4, d5, d6, d7, d8, d9, d10⟩, -, ⟨hC, iC⟩, ⟨hPP, iP⟩, hL, hK⟩ := Bls.at_ (HV.out.kept HKR.out) k x hx
        clear hx
        obtain ⟨kind, level, info, text, dest, title, id, cls, prs, line, kids⟩ := x
        simp only [Blo.kind, Blo.level, Blo.info, Blo.text, Blo.dest, Blo.title, Blo.id, Blo.cls, Blo.prs, Blo.line, Blo.kids] at d0 d1 d2 d3 d4 d5 d6 hC hPP hL hK hfit iC iP
        obtain ⟨⟨f1, f2, f3, f4, f5, f6, f7, f8, f9⟩, f10, f11⟩ := hfit
        obtain ⟨aC, cC, rfl, lC⟩ := hC.shape
        obtain ⟨aP, cP, rfl, lP⟩ := hPP.shape
        obtain ⟨aL, cL, rfl, lL⟩ := hL.form
        obtain ⟨aK, cK, rfl, lK⟩ := hK.form
        have hka := kept_alloc wr (.cells #[.int .i64 kind, .int .i64 level, .string (bs info), .string (bs text), .string (bs dest), .string (bs title), .string (bs id), .slice aC cls.length cC, .slice aP prs.length cP, .slice aL line.length cL, .slice aK kids.length cK] 38)
        have hb1 := Blk.new wr 38 #[.int .i64 kind, .int .i64 level, .string (bs info), .string (bs text), .string (bs dest), .string (bs title), .string (bs id), .slice aC cls.length cC, .slice aP prs.length cP, .slice aL line.length cL, .slice aK kids.length cK]
        obtain ⟨I, HII⟩ : ∃ I, Hid (wr.heap.size = I) := ⟨_, rfl⟩
        rw [HII.out] at hb1
        have HB1 := Lib.hid hb1
        have HKW1 := Lib.hid hka
        have q0 := hb1.cell 0 _ rfl
        have q2 := hb1.cell 2 _ rfl
        have q10 := hb1.cell 10 _ rfl
        have qz := hb1.lt
        clear hb1
        go_upto_region 5 with fail
        rw [HII.out]
        generalize wr.alloc _ = w1 at *
        clear d0 d1 d2 d3 d4 d5 d6 d7 d8 d9 d10
        by_cases hk13 : kind = 13
        · subst hk13
          by_cases hin : info = kIndex
          · subst hin
            have HNX : Hid (isIx (Blo.mk 13 level kIndex text dest title id cls prs line kids)) := ⟨rfl, rfl⟩
            unfold kIndex at *
            have HBX := Lib.hid (HBY.out w1 ((HKW0.out.trans HKR.out).trans hka))
            obtain ⟨ar, cr, rfl, hcr, hmr⟩ := HGR.out.form
            have HG1 := Lib.hid (HGR.out.kept (bloK N (n + 5)) hka)
            have HKR1 := Lib.hid (HKR.out.trans hka)
            have hzr : w.heap.size ≤ wr.heap.size := HKR.out.size
            clear hC hPP hL hK iC iP hka HIH HGR
            go_wp2_with fail
            refine HBX.out.mono ?_
            rintro e w5 ⟨v5, zs, rfl, hb5, hl5, hkk5⟩
            have hz5 : wr.heap.size ≤ w1.heap.size := HKW1.out.size
            have hzl : zs.length ≤ 1 := by
              rcases hl5 with ⟨_, rfl⟩ | ⟨its, _, rfl, _, _⟩ <;> simp
            obtain ⟨a5, c5, rfl, l5⟩ := hb5.form
            have HG5 := Lib.hid (HG1.out.kept (bloK N (n + 5)) hkk5)
            have HK5 := Lib.hid (HKR1.out.trans hkk5)
            have hown : ∀ g, (Value.slice ar ys.length cr).ownBlock = some g → g < w1.heap.size := fun g q => (HG1.out.blk g q).2
            have HBR : Hid (RowR (fun g => w1.heap.size ≤ g) 11 (BloK N (n + 5) (fun g => w1.heap.size ≤ g) w5) w5 (.slice a5 zs.length c5) zs) := (hb5.upm hN).ups (show 5 ≤ n + 5 + 1 by omega)
            have HSS : Hid (∀ g, g < w5.heap.size → w1.heap.size ≤ g → (S g ∨ w.heap.size ≤ g) ∧ (Value.slice ar ys.length cr).ownBlock ≠ some g) := fun g _ q => ⟨.inr (by omega), fun r => by have := hown g r; omega⟩
            have hbz : w.heap.size ≤ w5.heap.size := HK5.out.size
            have HBN9 : Hid ((listL (ys ++ zs)).length ≤ (listL (xs.take (k + 1))).length * (3 * es.length + 2)) := by
              show _ ≤ _
              have h1 := HBN.out
              have h2 := hl5.len
              rw [HTB.out, listL_app, List.length_append, Nat.add_mul, Nat.add_mul]
              omega
            have HNO9 : Hid (noIx (ys ++ zs)) := noIx_app HNO.out hl5.no
            have HSG9 : Hid (Sig (ys ++ zs) (sigL es (xs.take (k + 1)))) := by
              show Sig _ _
              rw [HTK.out]
              exact HSG.out.app (hl5.sig HNX.out)
            clear hb5 hl5 hkk5 hown HG1 HKR1 HBX
            go_wp2_with (at_builtin; refine holdQ ?_)
            refine Lib.hid ?_
            refine wpList_append_row (bloK N (n + 5)) rfl (.tmp 22) (.tmp 24) 23 rfl i0 _ 192 Tryz.underlying23 hi hz0 hz1 hz2 rfl (by omega) (by rfl) HG5.out _ (by rfl) HBR.out HSS.out (by unfold maxLen; omega) (by omega) hbz ?_
            intro v7 w17 hout7 hgrow7
            obtain ⟨a7, c7, rfl, -, -⟩ := hout7.form
            have hout7 : OutG (BloK N (n + 5)) 11 (fun g => S g ∨ w.heap.size ≤ g) w.heap.size 38 w17 (.slice a7 (ys.length + zs.length) c7) (ys ++ zs) := by rw [List.length_append] at hout7; exact hout7
            have HO7 := Lib.hid hout7
            have HK17 : Hid (Kept w w17) := HK5.out.trans' ((Only.grown hgrow7).below HK5.out.size (fun i q => (HG5.out.blk i q.symm).1))
            clear hout7 hgrow7 HG5 HBR HSS HK5
            go_wp2_with fail
            go_roundw
            case rel => exact ⟨k + 1, _, by omega, by go_num, HO7.out, HNO9.out, HSG9.out, HBN9.out, HK17.out⟩
            case measure => simp [intOf]; omega
          · have HNX : Hid (¬ isIx (Blo.mk 13 level info text dest title id cls prs line kids)) := fun q => hin q.2
            have HNI : Hid (∀ ks, ¬ isIx (Blo.mk 13 level info text dest title id cls prs line ks)) := fun ks q => hin q.2
            have hinb : (info == [105, 110, 100, 101, 120]) = false := by rw [beq_eq_false_iff_ne]; exact hin
            have HKX := Lib.hid (HIH.out kids (.slice aK kids.length cK) w1 (hK.kept hka) f9 f11 ((HKW0.out.trans HKR.out).trans hka))
            have hzr : w.heap.size ≤ wr.heap.size := HKR.out.size
            have HCC := Lib.hid hC
            have HPP := Lib.hid hPP
            have HLL := Lib.hid hL
            have HIC := Lib.hid iC
            have HIP := Lib.hid iP
            have HKR1 := Lib.hid (HKR.out.trans hka)
            have HWRI : Hid (wr.heap.size = I) := HII.out
            clear hC hPP hL hK iC iP hka HBY f11 f10
            go_wp2_with fail
            refine HKX.out.mono ?_
            rintro e w5 ⟨vK1, ks, rfl, hk5, hno5, hsg5, hln5, hkk5⟩
            obtain ⟨aK1, cK1, rfl, lK1⟩ := hk5.form
            have hI1 : w.heap.size ≤ I := by have := HWRI.out; omega
            have hb5 := HB1.out.kept hkk5
            have x9 : w5.cell? ⟨I, 10, none⟩ = some (.slice aK kids.length cK) := hb5.cell 10 _ rfl
            have f9' := hb5.free 10
            have zJ := hb5.lt
            have ho9 := Only.setCell (w := w5) I 10 (.slice aK1 ks.length cK1)
            have HJ9 : Hid (Blk (w5.setCell ⟨I, 10, none⟩ (.slice aK1 ks.length cK1)) I 38 #[.int .i64 13, .int .i64 level, .string (bs info), .string (bs text), .string (bs dest), .string (bs title), .string (bs id), .slice aC cls.length cC, .slice aP prs.length cP, .slice aL line.length cL, .slice aK1 ks.length cK1]) := hb5.set 10 _
            have hk15 := HKR1.out.trans hkk5
            have HK9 : Hid (Kept w (w5.setCell ⟨I, 10, none⟩ (.slice aK1 ks.length cK1))) := hk15.trans' (ho9.below hk15.size (fun i q => by omega))
            have hwI : wr.heap.size ≤ I := by have := HWRI.out; omega
            have hkw : Kept wr (w5.setCell ⟨I, 10, none⟩ (.slice aK1 ks.length cK1)) := (show Kept wr w5 from HKW1.out.trans hkk5).trans' (ho9.below (HKW1.out.trans hkk5).size (fun i q => by omega))
            have HKS : Hid (Bls (fun g => S g ∨ w.heap.size ≤ g) N (n + 5) (w5.setCell ⟨I, 10, none⟩ (.slice aK1 ks.length cK1)) (.slice aK1 ks.length cK1) ks) := (hk5.sam (S' := fun g => (S g ∨ w.heap.size ≤ g) ∧ g ≠ I) (fun _ _ _ => rfl) (fun g _ q => by
                have h1 := HB1.out.lt
                rcases q with q | q
                · have h2 := HSL.out g q; exact ⟨.inl q, by omega⟩
                · exact ⟨.inr (by omega), by omega⟩)).sam (S' := fun g => S g ∨ w.heap.size ≤ g) (Sam.only ho9 (fun g _ hs q => hs.2 q)) (fun g _ q => q.1)
            obtain ⟨ar, cr, rfl, hcr, hmr⟩ := HGR.out.form
            have hin : ∀ g, S g → (S g ∨ w.heap.size ≤ g) ∧ (Value.slice ar ys.length cr).ownBlock ≠ some g := fun g q => ⟨.inl q, fun r => by have h1 := (HGR.out.blk g r).1; have h2 := HSL.out g q; omega⟩
            have hkid : Bls (fun g => (S g ∨ w.heap.size ≤ g) ∧ (Value.slice ar ys.length cr).ownBlock ≠ some g) N (n + 5) (w5.setCell ⟨I, 10, none⟩ (.slice aK1 ks.length cK1)) (.slice aK1 ks.length cK1) ks := (hk5.sam (S' := fun g => ((S g ∨ w.heap.size ≤ g) ∧ (Value.slice ar ys.length cr).ownBlock ≠ some g) ∧ g ≠ I) (fun _ _ _ => rfl) (fun g _ q => by
                have h1 := HB1.out.lt
                rcases q with q | q
                · have h2 := HSL.out g q; exact ⟨hin g q, by omega⟩
                · exact ⟨⟨.inr (by omega), fun r => by have h3 := (HGR.out.blk g r).2; omega⟩, by omega⟩)).sam (S' := fun g => (S g ∨ w.heap.size ≤ g) ∧ (Value.slice ar ys.length cr).ownBlock ≠ some g) (Sam.only ho9 (fun g _ hs q => hs.2 q)) (fun g _ q => q.1)
            have HYY : Hid (BloK N (n + 5) (fun g => (S g ∨ w.heap.size ≤ g) ∧ (Value.slice ar ys.length cr).ownBlock ≠ some g) (w5.setCell ⟨I, 10, none⟩ (.slice aK1 ks.length cK1)) [.int .i64 13, .int .i64 level, .string (bs info), .string (bs text), .string (bs dest), .string (bs title), .string (bs id), .slice aC cls.length cC, .slice aP prs.length cP, .slice aL line.length cL, .slice aK1 ks.length cK1] (Blo.mk 13 level info text dest title id cls prs line ks)) :=
              ⟨_, _, _, _, rfl, ⟨HCC.out.kept hkw, HIC.out.mono (fun g _ _ q => hin g q)⟩, ⟨HPP.out.kept hkw, HIP.out.mono (fun g _ _ q => hin g q)⟩, (HLL.out.kept hkw).mono (fun g _ q => hin g q), hkid⟩
            have hka := kept_alloc (w5.setCell ⟨I, 10, none⟩ (.slice aK1 ks.length cK1)) (.cells #[.int .i64 13, .int .i64 level, .string (bs info), .string (bs text), .string (bs dest), .string (bs title), .string (bs id), .slice aC cls.length cC, .slice aP prs.length cP, .slice aL line.length cL, .slice aK1 ks.length cK1] 38)
            have HG2 := Lib.hid ((HGR.out.kept (bloK N (n + 5)) hkw).kept (bloK N (n + 5)) hka)
            have HROW := Lib.hid (Blk.new (w5.setCell ⟨I, 10, none⟩ (.slice aK1 ks.length cK1)) 38 #[.int .i64 13, .int .i64 level, .string (bs info), .string (bs text), .string (bs dest), .string (bs title), .string (bs id), .slice aC cls.length cC, .slice aP prs.length cP, .slice aL line.length cL, .slice aK1 ks.length cK1])
            (try rw [size_setCell] at HROW)
            have HYZ := Lib.hid ((bloK N (n + 5)).sam HYY.out (Sam.kept hka) (fun _ _ q => q))
            have HKA := Lib.hid (HK9.out.trans hka)
            have hbz : w.heap.size ≤ ((w5.setCell ⟨I, 10, none⟩ (.slice aK1 ks.length cK1)).alloc (.cells #[.int .i64 13, .int .i64 level, .string (bs info), .string (bs text), .string (bs dest), .string (bs title), .string (bs id), .slice aC cls.length cC, .slice aP prs.length cP, .slice aL line.length cL, .slice aK1 ks.length cK1] 38)).heap.size := HKA.out.size
            have HBN9 : Hid ((listL (ys ++ [(Blo.mk 13 level info text dest title id cls prs line ks)])).length ≤ (listL (xs.take (k + 1))).length * (3 * es.length + 2)) := by
              show _ ≤ _
              have h1 := HBN.out
              have e : (listL [(Blo.mk 13 level info text dest title id cls prs line ks)]).length = 1 + (listL ks).length := by
                show (list1 _ ++ []).length = _
                rw [List.append_nil, list1_eq, List.length_cons]
                show (listL ks).length + 1 = _
                omega
              rw [HTB.out, listL_app, List.length_append, e, Nat.add_mul, Nat.add_mul]
              show _ ≤ _ + (_ + (listL kids).length * _)
              omega
            have HNO9 : Hid (noIx (ys ++ [(Blo.mk 13 level info text dest title id cls prs line ks)])) := noIx_app HNO.out (noIx_one (HNI.out ks) hno5)
            have HSG9 : Hid (Sig (ys ++ [(Blo.mk 13 level info text dest title id cls prs line ks)]) (sigL es (xs.take (k + 1)))) := by
              show Sig _ _
              rw [HTK.out]
              refine HSG.out.app ?_
              unfold sig1
              rw [if_neg HNX.out]
              exact Sig.one rfl (fun q => absurd rfl q)
            have jc0 := HJ9.out.cell 0 _ rfl
            have jc1 := HJ9.out.cell 1 _ rfl
            have jc2 := HJ9.out.cell 2 _ rfl
            have jc3 := HJ9.out.cell 3 _ rfl
            have jc4 := HJ9.out.cell 4 _ rfl
            have jc5 := HJ9.out.cell 5 _ rfl
            have jc6 := HJ9.out.cell 6 _ rfl
            have jc7 := HJ9.out.cell 7 _ rfl
            have jc8 := HJ9.out.cell 8 _ rfl
            have jc9 := HJ9.out.cell 9 _ rfl
            have jc10 := HJ9.out.cell 10 _ rfl
            clear hk5 hkk5 hb5 ho9 hk15 hkw HKS hin hkid hka HYY HK9 HJ9 HGR HCC HPP HLL HIC HIP HKR1 HKX hno5 hsg5
            go_wp2_with (at_builtin; refine holdQ ?_)
            refine Lib.hid ?_
            refine wpList_append_out (bloK N (n + 5)) rfl (.tmp 31) (.tmp 33) 23 rfl i0 _ 192 Tryz.underlying23 hi hz0 hz1 hz2 rfl (by omega) (by rfl) HG2.out w5.heap.size _ (Blo.mk 13 level info text dest title id cls prs line ks) (by rfl) (fun j u hu => HROW.out.cell j u (by rw [← Array.getElem?_toList]; exact hu)) rfl HYZ.out (by unfold maxLen; omega) (by omega) hbz _ rfl ?_
            intro g7 c7' w17 hout7 hgrow7 hat7 hlt7
            have HO7 := Lib.hid hout7
            have HK17 : Hid (Kept w w17) := HKA.out.trans' ((Only.grown hgrow7).below HKA.out.size (fun i q => (HG2.out.blk i q.symm).1))
            clear hout7 hgrow7 hat7 hlt7 HG2 HROW HYZ HKA hbz x9 f9' zJ jc0 jc1 jc2 jc3 jc4 jc5 jc6 jc7 jc8 jc9 jc10
            go_wp2_with fail
            go_roundw
            case rel => exact ⟨k + 1, _, by omega, by go_num, HO7.out, HNO9.out, HSG9.out, HBN9.out, HK17.out⟩
            case measure => simp [intOf]; omega
        · have HNX : Hid (¬ isIx (Blo.mk kind level info text dest title id cls prs line kids)) := fun q => hk13 q.1
          have HNI : Hid (∀ ks, ¬ isIx (Blo.mk kind level info text dest title id cls prs line ks)) := fun ks q => hk13 q.1
          have HKX := Lib.hid (HIH.out kids (.slice aK kids.length cK) w1 (hK.kept hka) f9 f11 ((HKW0.out.trans HKR.out).trans hka))
          have hzr : w.heap.size ≤ wr.heap.size := HKR.out.size
          have HCC := Lib.hid hC
          have HPP := Lib.hid hPP
          have HLL := Lib.hid hL
          have HIC := Lib.hid iC
          have HIP := Lib.hid iP
          have HKR1 := Lib.hid (HKR.out.trans hka)
          have HWRI : Hid (wr.heap.size = I) := HII.out
          clear hC hPP hL hK iC iP hka HBY f11 f10
          go_wp2_with fail
          refine HKX.out.mono ?_
          rintro e w5 ⟨vK1, ks, rfl, hk5, hno5, hsg5, hln5, hkk5⟩
          obtain ⟨aK1, cK1, rfl, lK1⟩ := hk5.form
          have hI1 : w.heap.size ≤ I := by have := HWRI.out; omega
          have hb5 := HB1.out.kept hkk5
          have x9 : w5.cell? ⟨I, 10, none⟩ = some (.slice aK kids.length cK) := hb5.cell 10 _ rfl
          have f9' := hb5.free 10
          have zJ := hb5.lt
          have ho9 := Only.setCell (w := w5) I 10 (.slice aK1 ks.length cK1)
          have HJ9 : Hid (Blk (w5.setCell ⟨I, 10, none⟩ (.slice aK1 ks.length cK1)) I 38 #[.int .i64 kind, .int .i64 level, .string (bs info), .string (bs text), .string (bs dest), .string (bs title), .string (bs id), .slice aC cls.length cC, .slice aP prs.length cP, .slice aL line.length cL, .slice aK1 ks.length cK1]) := hb5.set 10 _
          have hk15 := HKR1.out.trans hkk5
          have HK9 : Hid (Kept w (w5.setCell ⟨I, 10, none⟩ (.slice aK1 ks.length cK1))) := hk15.trans' (ho9.below hk15.size (fun i q => by omega))
          have hwI : wr.heap.size ≤ I := by have := HWRI.out; omega
          have hkw : Kept wr (w5.setCell ⟨I, 10, none⟩ (.slice aK1 ks.length cK1)) := (show Kept wr w5 from HKW1.out.trans hkk5).trans' (ho9.below (HKW1.out.trans hkk5).size (fun i q => by omega))
          have HKS : Hid (Bls (fun g => S g ∨ w.heap.size ≤ g) N (n + 5) (w5.setCell ⟨I, 10, none⟩ (.slice aK1 ks.length cK1)) (.slice aK1 ks.length cK1) ks) := (hk5.sam (S' := fun g => (S g ∨ w.heap.size ≤ g) ∧ g ≠ I) (fun _ _ _ => rfl) (fun g _ q => by
              have h1 := HB1.out.lt
              rcases q with q | q
              · have h2 := HSL.out g q; exact ⟨.inl q, by omega⟩
              · exact ⟨.inr (by omega), by omega⟩)).sam (S' := fun g => S g ∨ w.heap.size ≤ g) (Sam.only ho9 (fun g _ hs q => hs.2 q)) (fun g _ q => q.1)
          obtain ⟨ar, cr, rfl, hcr, hmr⟩ := HGR.out.form
          have hin : ∀ g, S g → (S g ∨ w.heap.size ≤ g) ∧ (Value.slice ar ys.length cr).ownBlock ≠ some g := fun g q => ⟨.inl q, fun r => by have h1 := (HGR.out.blk g r).1; have h2 := HSL.out g q; omega⟩
          have hkid : Bls (fun g => (S g ∨ w.heap.size ≤ g) ∧ (Value.slice ar ys.length cr).ownBlock ≠ some g) N (n + 5) (w5.setCell ⟨I, 10, none⟩ (.slice aK1 ks.length cK1)) (.slice aK1 ks.length cK1) ks := (hk5.sam (S' := fun g => ((S g ∨ w.heap.size ≤ g) ∧ (Value.slice ar ys.length cr).ownBlock ≠ some g) ∧ g ≠ I) (fun _ _ _ => rfl) (fun g _ q => by
              have h1 := HB1.out.lt
              rcases q with q | q
              · have h2 := HSL.out g q; exact ⟨hin g q, by omega⟩
              · exact ⟨⟨.inr (by omega), fun r => by have h3 := (HGR.out.blk g r).2; omega⟩, by omega⟩)).sam (S' := fun g => (S g ∨ w.heap.size ≤ g) ∧ (Value.slice ar ys.length cr).ownBlock ≠ some g) (Sam.only ho9 (fun g _ hs q => hs.2 q)) (fun g _ q => q.1)
          have HYY : Hid (BloK N (n + 5) (fun g => (S g ∨ w.heap.size ≤ g) ∧ (Value.slice ar ys.length cr).ownBlock ≠ some g) (w5.setCell ⟨I, 10, none⟩ (.slice aK1 ks.length cK1)) [.int .i64 kind, .int .i64 level, .string (bs info), .string (bs text), .string (bs dest), .string (bs title), .string (bs id), .slice aC cls.length cC, .slice aP prs.length cP, .slice aL line.length cL, .slice aK1 ks.length cK1] (Blo.mk kind level info text dest title id cls prs line ks)) :=
            ⟨_, _, _, _, rfl, ⟨HCC.out.kept hkw, HIC.out.mono (fun g _ _ q => hin g q)⟩, ⟨HPP.out.kept hkw, HIP.out.mono (fun g _ _ q => hin g q)⟩, (HLL.out.kept hkw).mono (fun g _ q => hin g q), hkid⟩
          have hka := kept_alloc (w5.setCell ⟨I, 10, none⟩ (.slice aK1 ks.length cK1)) (.cells #[.int .i64 kind, .int .i64 level, .string (bs info), .string (bs text), .string (bs dest), .string (bs title), .string (bs id), .slice aC cls.length cC, .slice aP prs.length cP, .slice aL line.length cL, .slice aK1 ks.length cK1] 38)
          have HG2 := Lib.hid ((HGR.out.kept (bloK N (n + 5)) hkw).kept (bloK N (n + 5)) hka)
          have HROW := Lib.hid (Blk.new (w5.setCell ⟨I, 10, none⟩ (.slice aK1 ks.length cK1)) 38 #[.int .i64 kind, .int .i64 level, .string (bs info), .string (bs text), .string (bs dest), .string (bs title), .string (bs id), .slice aC cls.length cC, .slice aP prs.length cP, .slice aL line.length cL, .slice aK1 ks.length cK1])
          (try rw [size_setCell] at HROW)
          have HYZ := Lib.hid ((bloK N (n + 5)).sam HYY.out (Sam.kept hka) (fun _ _ q => q))
          have HKA := Lib.hid (HK9.out.trans hka)
          have hbz : w.heap.size ≤ ((w5.setCell ⟨I, 10, none⟩ (.slice aK1 ks.length cK1)).alloc (.cells #[.int .i64 kind, .int .i64 level, .string (bs info), .string (bs text), .string (bs dest), .string (bs title), .string (bs id), .slice aC cls.length cC, .slice aP prs.length cP, .slice aL line.length cL, .slice aK1 ks.length cK1] 38)).heap.size := HKA.out.size
          have HBN9 : Hid ((listL (ys ++ [(Blo.mk kind level info text dest title id cls prs line ks)])).length ≤ (listL (xs.take (k + 1))).length * (3 * es.length + 2)) := by
            show _ ≤ _
            have h1 := HBN.out
            have e : (listL [(Blo.mk kind level info text dest title id cls prs line ks)]).length = 1 + (listL ks).length := by
              show (list1 _ ++ []).length = _
              rw [List.append_nil, list1_eq, List.length_cons]
              show (listL ks).length + 1 = _
              omega
            rw [HTB.out, listL_app, List.length_append, e, Nat.add_mul, Nat.add_mul]
            show _ ≤ _ + (_ + (listL kids).length * _)
            omega
          have HNO9 : Hid (noIx (ys ++ [(Blo.mk kind level info text dest title id cls prs line ks)])) := noIx_app HNO.out (noIx_one (HNI.out ks) hno5)
          have HSG9 : Hid (Sig (ys ++ [(Blo.mk kind level info text dest title id cls prs line ks)]) (sigL es (xs.take (k + 1)))) := by
            show Sig _ _
            rw [HTK.out]
            refine HSG.out.app ?_
            unfold sig1
            rw [if_neg HNX.out]
            exact Sig.one rfl (fun q => absurd rfl q)
          have jc0 := HJ9.out.cell 0 _ rfl
          have jc1 := HJ9.out.cell 1 _ rfl
          have jc2 := HJ9.out.cell 2 _ rfl
          have jc3 := HJ9.out.cell 3 _ rfl
          have jc4 := HJ9.out.cell 4 _ rfl
          have jc5 := HJ9.out.cell 5 _ rfl
          have jc6 := HJ9.out.cell 6 _ rfl
          have jc7 := HJ9.out.cell 7 _ rfl
          have jc8 := HJ9.out.cell 8 _ rfl
          have jc9 := HJ9.out.cell 9 _ rfl
          have jc10 := HJ9.out.cell 10 _ rfl
          clear hk5 hkk5 hb5 ho9 hk15 hkw HKS hin hkid hka HYY HK9 HJ9 HGR HCC HPP HLL HIC HIP HKR1 HKX hno5 hsg5
          go_wp2_with (at_builtin; refine holdQ ?_)
          refine Lib.hid ?_
          refine wpList_append_out (bloK N (n + 5)) rfl (.tmp 31) (.tmp 33) 23 rfl i0 _ 192 Tryz.underlying23 hi hz0 hz1 hz2 rfl (by omega) (by rfl) HG2.out w5.heap.size _ (Blo.mk kind level info text dest title id cls prs line ks) (by rfl) (fun j u hu => HROW.out.cell j u (by rw [← Array.getElem?_toList]; exact hu)) rfl HYZ.out (by unfold maxLen; omega) (by omega) hbz _ rfl ?_
          intro g7 c7' w17 hout7 hgrow7 hat7 hlt7
          have HO7 := Lib.hid hout7
          have HK17 : Hid (Kept w w17) := HKA.out.trans' ((Only.grown hgrow7).below HKA.out.size (fun i q => (HG2.out.blk i q.symm).1))
          clear hout7 hgrow7 hat7 hlt7 HG2 HROW HYZ HKA hbz x9 f9' zJ jc0 jc1 jc2 jc3 jc4 jc5 jc6 jc7 jc8 jc9 jc10
          go_wp2_with fail
          go_roundw
          case rel => exact ⟨k + 1, _, by omega, by go_num, HO7.out, HNO9.out, HSG9.out, HBN9.out, HK17.out⟩
          case measure => simp [intOf]; omega
      · obtain rfl : k = xs.length := by omega
        obtain ⟨ar, cr, rfl, hcr, hmr⟩ := HGR.out.form
        have HF := Lib.hid (HFIN.out _ ys wr HGR.out HNO.out HSG.out HBN.out HKR.out)
        clear HGR HKR HNO HSG
        go_wp2_with fail
        (try go_ret)
        exact HF.out
end Go.Proofs.YtnbhpmleboildaaGreatDoor

/- Regions that draw their order, inside a fence: by an invariant over what has been done. No condition. -/
set_option linter.all false
namespace Go.Proofs.YtnbhpmleboildaaGreatDoor
open Go.RowKit

section
variable {P : Program} {ops : Array Oper} {Q : Exit → Act → World → Prop} {md : Region.Mode} {F : Fence} {k : Nat}
theorem wpAnyIn_inv (I : Array Bool → Act → World → Prop) (hac : ∀ (i : Nat) (o : Oper), ops[i]? = some o → ∀ e ∈ o.after, Region.binds md e = true → e.on < i)
    (hend : ∀ L a w, I L a w → (∀ i, i < ops.size → L.getD i true = true) → Q .normal a w)
    (hstep : ∀ L a w i, I L a w → i < ops.size → L.getD i true = false → (∀ o, ops[i]? = some o → ∀ e ∈ o.after, Region.binds md e = true → On L e.on) → wpOpIn F k P ops Q i (I (L.setIfInBounds i true)) a w) :
    ∀ (fuel : Nat) L a w, offN L ops.size ≤ fuel → I L a w → wpAnyIn F k P md ops Q fuel L a w := by
  have hall : ∀ L, L.size = L.size → Region.ready md ops L = [] → (∀ i, i < ops.size → L.getD i true = true) := by
    intro L _ hr i
    induction i using Nat.strongRecOn with
    | ind i ih =>
      intro hi
      cases hq : L.getD i true with
      | true => rfl
      | false =>
        exfalso
        have : i ∈ Region.ready md ops L := by
          rw [mem_ready]
          refine ⟨hq, ops[i], Array.getElem?_eq_getElem hi, fun e he hb => ?_⟩
          have h1 := hac i ops[i] (Array.getElem?_eq_getElem hi) e he hb
          have h2 := ih e.on h1 (by omega)
          have hlt : e.on < L.size := by
            rcases Nat.lt_or_ge i L.size with x | x
            · omega
            · rw [Array.getD_eq_getD_getElem?, Array.getElem?_eq_none x] at hq; cases hq
          rw [Array.getD_eq_getD_getElem?, Array.getElem?_eq_getElem hlt] at h2 ⊢
          exact h2
        rw [hr] at this; cases this
  intro fuel
  induction fuel with
  | zero =>
    intro L a w hf hI
    have hz : ∀ n, offN L n = 0 → ∀ i, i < n → L.getD i true = true := by
      intro n
      induction n with
      | zero => intro _ i hi; omega
      | succ n ih =>
        intro h i hi
        rw [offN] at h
        by_cases q : i = n
        · subst q
          cases hq : L.getD i true with
          | true => rfl
          | false => rw [hq] at h; simp at h
        · exact ih (by omega) i (by omega)
    have ha := hz ops.size (by omega)
    refine ⟨?_, hend L a w hI ha⟩
    cases hr : Region.ready md ops L with
    | nil => rfl
    | cons i r =>
      exfalso
      have hi : i ∈ Region.ready md ops L := by rw [hr]; exact List.mem_cons_self ..
      rw [mem_ready] at hi
      obtain ⟨h0, o, ho, _⟩ := hi
      have := ha i (Array.getElem?_eq_some_iff.1 ho).1
      rw [this] at h0; cases h0
  | succ fuel ih =>
    intro L a w hf hI
    refine ⟨fun hr => hend L a w hI (hall L rfl hr), fun i hi => ?_⟩
    rw [mem_ready] at hi
    obtain ⟨h0, o, ho, hed⟩ := hi
    have hlt := (Array.getElem?_eq_some_iff.1 ho).1
    have hs := offN_set L i h0 ops.size
    rw [if_pos hlt] at hs
    refine wpOpIn_mono (fun a' w' hI' => ih _ a' w' (by omega) hI') (hstep L a w i hI hlt h0 (fun o' ho' e he hb => ?_))
    rw [ho] at ho'
    cases ho'
    exact hed e he hb
theorem wp_regionIn_inv {id : Nat} {a : Act} {w : World} (I : Array Bool → Act → World → Prop) (hm : P.follows .mixedOrders = true) (hac : ∀ (i : Nat) (o : Oper), ops[i]? = some o → ∀ e ∈ o.after, Region.binds .any e = true → e.on < i)
    (h0 : I (Array.replicate ops.size false) a w.drew)
    (hend : ∀ L a w, I L a w → (∀ i, i < ops.size → L.getD i true = true) → Q .normal a w)
    (hstep : ∀ L a w i, I L a w → i < ops.size → L.getD i true = false → (∀ o, ops[i]? = some o → ∀ e ∈ o.after, Region.binds .any e = true → On L e.on) → wpOpIn F k P ops Q i (I (L.setIfInBounds i true)) a w) :
    (Code.region id ops true).wpIn F k P Q a w :=
  wpIn_region_any hm (wpAnyIn_inv I hac hend hstep ops.size _ _ _ (offN_start _) h0)
/-- A region that draws its order, by a law of what has been done and of the values. -/
theorem wp_regionIn_gen {id : Nat} {a : Act} {w : World} (n s m : Nat) (dep : Array (List Nat)) (hc : facB ops n s #[[]] dep m = true) (hm : P.follows .mixedOrders = true) (hz : m ≤ a.tmps.size)
    (G : (Nat → Prop) → (Nat → Value) → World → Prop) (hG0 : ∀ V, G (fun _ => False) V w.drew)
    (hstep : ∀ i, i < n → ∀ X V a' w', G X V w' → ¬ X i → (∀ j, j < n → X j → ∀ q ∈ dep.getD j [], X q) → (∀ j ∈ dep.getD i [], X j) → (∀ j, j < n → X j → ∀ d, dstB ops j = some d → a'.tmps[d]? = some (V j)) → (∀ t, (∀ j, j < n → dstB ops j ≠ some t) → a'.eval (.tmp t) = a.eval (.tmp t)) →
      ∀ K : Act → World → Prop, (∀ v w'', G (fun j => j = i ∨ X j) (upd V i v) w'' → K (a'.put (dstB ops i) v) w'') → wpOpIn F k P ops Q i K a' w')
    (hend : ∀ X V w', (∀ i, i < n → X i) → G X V w' → Q .normal (putAll (dstB ops) V n a) w') :
    (Code.region id ops true).wpIn F k P Q a w := by
  obtain ⟨hn, hs, hac⟩ := facB_ac hc
  have hO : ∀ i, i < n → ∃ o, ops[i]? = some o := fun i hi => ⟨_, Array.getElem?_eq_getElem (by rw [hn]; exact hi)⟩
  have hdo : ∀ {i : Nat} {o : Oper}, ops[i]? = some o → dstB ops i = o.dst := fun h => by unfold dstB; rw [h]; rfl
  have hinj : ∀ i j d, i < n → j < n → dstB ops i = some d → dstB ops j = some d → j = i := fun i j d hi hj h1 h2 => by
    obtain ⟨o, ho⟩ := hO i hi
    exact ((facB_ops hc ho).2 d (by rw [← hdo ho]; exact h1)).2 j hj h2
  have hlt : ∀ i d, i < n → dstB ops i = some d → d < a.tmps.size := fun i d hi h1 => by
    obtain ⟨o, ho⟩ := hO i hi
    exact Nat.lt_of_lt_of_le ((facB_ops hc ho).2 d (by rw [← hdo ho]; exact h1)).1 hz
  subst hn
  generalize hD : dstB ops = D at *
  refine wp_regionIn_inv (fun L a' w' => L.size = ops.size ∧ ∃ V, Slots ops.size D V L a a' ∧ (∀ j, j < ops.size → On L j → ∀ i ∈ dep.getD j [], On L i) ∧ G (On L) V w') hm (ac_of hac) ?_ ?_ ?_
  · have hno : ∀ i, ¬ On (Array.replicate ops.size false) i := fun i => not_on_start ops.size i
    refine ⟨by simp, fun _ => undef, Slots.start _ _ _ _ _, fun j _ h => absurd h (hno j), ?_⟩
    have e : On (Array.replicate ops.size false) = fun _ => False := funext fun i => propext ⟨fun h => hno i h, fun h => h.elim⟩
    rw [e]; exact hG0 _
  · intro L a1 w1 ⟨hsz, V, S, h2, h3⟩ hall
    have hon : ∀ i, i < ops.size → On L i := fun i hi => by
      have := hall i hi
      unfold On
      rw [Array.getD_eq_getD_getElem?, Array.getElem?_eq_getElem (by omega)] at this ⊢
      exact this
    rw [slots_all S hinj hlt hon]
    exact hend _ V w1 hon h3
  · intro L a1 w1 i ⟨hsz, V, S, h2, h3⟩ hi hn hed
    obtain ⟨o, ho⟩ := hO i hi
    have n0 := not_on hn
    have hdon : ∀ j ∈ dep.getD i [], On L j := fun j hj => by
      obtain ⟨q1, q0, e, he, hb, q⟩ := (facB_ops hc ho).1 j hj
      have h5 := hed o ho e he hb
      rcases q with rfl | q
      · exact h5
      · have hlt2 : e.on < ops.size := by
          have := ac_of hac i o ho e he hb; omega
        exact h2 e.on hlt2 h5 j q
    refine hstep i hi (On L) V a1 w1 h3 n0 h2 hdon (fun j hj h d hd => S.val j d hj hd h) (fun t ht => S.ext t ht) _ (fun v w2 k3 => ?_)
    have hput : Slots ops.size D (upd V i v) (L.setIfInBounds i true) a (a1.put (D i) v) := S.put i hi (by omega) (fun j d hj h5 h6 => hinj i j d hi hj h5 h6) (fun d hd => hlt i d hi hd) v (fun _ => (upd_same V i v).symm) (fun j _ hj => (upd_ne (fun e => n0 (by rw [← e]; exact hj))).symm)
    have e : On (L.setIfInBounds i true) = fun j => j = i ∨ On L j := funext fun j => propext ⟨fun h => on_set h, fun h => by
      rcases h with rfl | h
      · exact on_same (by omega)
      · exact on_mono h⟩
    refine ⟨by rw [Array.size_setIfInBounds]; exact hsz, upd V i v, hput, fun j hj h q hq => ?_, by rw [e]; exact k3⟩
    rcases on_set h with rfl | h
    · exact on_mono (hdon q hq)
    · exact on_mono (h2 j hj h q hq)
end
section
variable {P : Program} {ops : Array Oper} {Q : Exit → Act → World → Prop} {k : Nat}
theorem yielded_of {j d : Nat} {b : Bool} {tmps : Array Value} (hd : dstB ops j = some d) (ht : tmps[d]? = some (.bool b)) : yielded ops tmps j = some b := by
  unfold yielded
  unfold dstB at hd
  rw [hd]
  simp [ht]
/-- An operation, its slot, its guard. -/
def OpG (ops : Array Oper) (i : Nat) (op : Op) (d : Option Nat) (g : Option (Nat × Bool)) : Prop := ∃ o, ops[i]? = some o ∧ o.op = op ∧ o.guard = g ∧ o.dst = d
theorem opG_dst {i : Nat} {op : Op} {d : Option Nat} {g : Option (Nat × Bool)} (h : OpG ops i op d g) : dstB ops i = d := by
  obtain ⟨o, ho, -, -, hd⟩ := h; unfold dstB; rw [ho]; exact hd
/-- The operation is wanted: what it answers. -/
theorem opG_do {i : Nat} {op : Op} {d : Option Nat} {g : Option (Nat × Bool)} {a : Act} {w : World} {K : Act → World → Prop} (h : OpG ops i op d g) (hw : ∀ j b, g = some (j, b) → yielded ops a.tmps j = some b)
    (hr : ∀ o : Oper, o.op = op → o.dst = d → o.uponIn Fence.wide k P a K Q ((execOp a.eval o).run P w)) : wpOpIn Fence.wide k P ops Q i K a w := by
  obtain ⟨o, ho, hop, hg, hd⟩ := h
  unfold wpOpIn
  simp only [ho]
  rw [if_pos (by
    unfold Region.wanted
    rw [hg]
    cases g with
    | none => rfl
    | some jb => obtain ⟨j, b⟩ := jb; simp [hw j b rfl])]
  exact ⟨fun _ _ => trivial, hr o hop hd⟩
theorem opG_val {i : Nat} {op : Op} {d : Option Nat} {g : Option (Nat × Bool)} {a : Act} {w : World} {v : Value} {K : Act → World → Prop} (h : OpG ops i op d g) (hw : ∀ j b, g = some (j, b) → yielded ops a.tmps j = some b)
    (hr : ∀ o : Oper, o.op = op → (execOp a.eval o).run P w = .ok (.value v) w) (hk : K (a.put (dstB ops i) v) w) : wpOpIn Fence.wide k P ops Q i K a w := by
  have e := opG_dst h
  refine opG_do h hw fun o ho hd => ?_
  rw [hr o ho, Oper.uponIn_value, hd, ← e]; exact hk
/-- The operation is not wanted. -/
theorem opG_skip {i : Nat} {op : Op} {d : Option Nat} {j : Nat} {b c : Bool} {a : Act} {w : World} {K : Act → World → Prop} (h : OpG ops i op d (some (j, b))) (hw : yielded ops a.tmps j = some c) (hne : c ≠ b) (hk : K (a.put (dstB ops i) undef) w) : wpOpIn Fence.wide k P ops Q i K a w := by
  have e := opG_dst h
  obtain ⟨o, ho, hop, hg, hd⟩ := h
  unfold wpOpIn
  simp only [ho]
  rw [if_neg (by
    unfold Region.wanted
    rw [hg]
    simp [hw, hne])]
  rw [hd, ← e]
  exact ⟨fun _ _ => trivial, hk⟩
end
end Go.Proofs.YtnbhpmleboildaaGreatDoor

/- tree.Each: every block, each one before those that it contains, for whatever loop body. Conditions: lengths. -/
set_option linter.all false
namespace Go.Proofs.YtnbhpmleboildaaGreatDoor
open Go.RowKit Go.Shelf

/-- What a round that goes on keeps: all that lay below n0, and every block of cells. -/
def KpC (n0 : Nat) (W W' : World) : Prop := Only (fun k => n0 ≤ k ∧ ∀ o, W.heap[k]? = some o → o.isCells = false) W W'
theorem KpC.refl (n0 : Nat) (W : World) : KpC n0 W W := Only.of_kept (Kept.refl W)
theorem KpC.trans {n0 : Nat} {A B C : World} (h : KpC n0 A B) (k : KpC n0 B C) : KpC n0 A C :=
  ⟨k.os.trans h.os, k.tape.trans h.tape, k.output.trans h.output, Nat.le_trans h.size k.size, fun i hi hs => by
    have h1 := h.block i hi hs
    refine (k.block i (Nat.lt_of_lt_of_le hi h.size) (fun q => hs ⟨q.1, fun o ho => q.2 o (by rw [h1]; exact ho)⟩)).trans h1⟩
theorem KpC.blk {n0 g : Nat} {t : TypeId} {cs : Array Value} {W W' : World} (h : KpC n0 W W') (k : Blk W g t cs) : Blk W' g t cs :=
  (h.block g k.lt (fun q => by
    have := q.2 _ (show W.heap[g]? = some _ from k)
    simp [Obj.isCells] at this)).trans k
theorem KpC.of_kept {n0 : Nat} {A B : World} (h : Kept A B) : KpC n0 A B := Only.of_kept h
theorem KpC.low {n0 : Nat} {A B : World} (h : KpC n0 A B) (hn : n0 ≤ A.heap.size) : Below n0 A B := h.below hn (fun i q => q.1)
/-- What the walk hands to a round: a block with its slices. -/
structure EBlo where
  b : Blo
  vC : Value
  vP : Value
  vL : Value
  vK : Value
  oC : ∃ a n c, vC = .slice a n c
  oP : ∃ a n c, vP = .slice a n c
  oL : ∃ a n c, vL = .slice a n c
  oK : ∃ a n c, vK = .slice a n c
abbrev EBlo.enc (x : EBlo) : Array Value := #[.agg (bloC x.b x.vC x.vP x.vL x.vK).toArray]
theorem room_of_none' {F : Fence} (hd : F.depth = none) (k : Nat) : F.room k := fun d h => by rw [hd] at h; cases h
theorem RoundIn.anyD {F : Fence} (hd : F.depth = none) {m m' : Nat} {P : Program} {l : Nat} {f : FuncId} {tmps : Array Value} {assign body : Code} {w : World} {R : Ending → World → Prop}
    (h : RoundIn F m P l f tmps assign body w R) : RoundIn F m' P l f tmps assign body w R := ⟨h.1, fun c cs _ => h.2 c cs (room_of_none' hd _)⟩
theorem YieldAt.anyD {F : Fence} (hd : F.depth = none) {m : Nat} (m' : Nat) {P : Program} {l : Nat} {args : Array Value} {W : World} {R : Ending → World → Prop} (h : YieldAt F m P l args W R) : YieldAt F m' P l args W R := by
  obtain ⟨fn, tmps, assign, body, hy, hR⟩ := h
  exact ⟨fn, tmps, assign, body, hy, RoundIn.anyD hd hR⟩
abbrev wkV (YC WK : Nat) : Value := .func (.func 49) #[] #[.pointer (some ⟨YC, 0, none⟩), .pointer (some ⟨WK, 0, none⟩)]
def EachP (n0 : Nat) (J Jx : List EBlo → World → Prop) (pre : List EBlo) (xs : List Blo) (W : World) (e : Ending) (W' : World) : Prop :=
  (e = .returned (.bool true) ∧ ∃ ys : List EBlo, ys.map (·.b) = listL xs ∧ J (pre ++ ys) W' ∧ KpC n0 W W') ∨ (e = .returned (.bool false) ∧ ∃ q, Jx (pre ++ q) W')
theorem listL_take {xs : List Blo} {k : Nat} {x : Blo} (h : xs[k]? = some x) : listL (xs.take (k + 1)) = listL (xs.take k) ++ x :: listL x.kids := by
  rw [take_snoc h, listL_app]
  show _ ++ (list1 x ++ listL []) = _
  rw [list1_eq]
  simp [listL]
theorem listL_le (xs : List Blo) (k : Nat) : (listL (xs.take k)).length ≤ (listL xs).length := by
  conv => rhs; rw [← List.take_append_drop k xs, listL_app]
  simp
theorem Tryz.sizeBlE : (Tryz.prog.info? 38).map (·.size) = some 11 := by kernel_rfl
def depE : Array (List Nat) := #[[], [], [], [1, 2], [3], [0, 4], [5], [6, 5], [7, 5], [7, 5], [7, 5], [9, 10, 7, 5], [11, 7, 5], [12, 7, 5], [8, 13, 7, 5], [14, 7, 5], [7, 15, 14, 5]]
/-- What is known of each value of the region. -/
def fE (yv wv vS vK : Value) (cs : Array Value) (j g o : Nat) : Nat → (Nat → Value) → Prop
  | 0, V => V 0 = yv
  | 1, V => V 1 = vS
  | 2, V => V 2 = .int .i64 j
  | 3, V => V 3 = .pointer (some ⟨g, o + j * 11, none⟩)
  | 4, V => V 4 = .agg cs
  | 5, V => ∃ b, V 5 = .bool b
  | 6, V => ∃ b, V 5 = .bool b ∧ V 6 = .bool (!b)
  | 7, V => ∃ b, V 5 = .bool b ∧ V 7 = .bool (!b)
  | 8, V => V 5 = .bool true → V 8 = wv
  | 9, V => V 5 = .bool true → V 9 = vS
  | 10, V => V 5 = .bool true → V 10 = .int .i64 j
  | 11, V => V 5 = .bool true → V 11 = .pointer (some ⟨g, o + j * 11, none⟩)
  | 12, V => V 5 = .bool true → V 12 = .pointer (some ⟨g, o + j * 11 + 10, none⟩)
  | 13, V => V 5 = .bool true → V 13 = vK
  | 14, V => V 5 = .bool true → ∃ c, V 14 = .bool c
  | 15, V => V 5 = .bool true → ∃ c, V 14 = .bool c ∧ V 15 = .bool (!c)
  | 16, V => (V 5 = .bool false → V 16 = .bool true) ∧ (V 5 = .bool true → ∃ c, V 14 = .bool c ∧ V 16 = .bool (!c))
  | _, _ => True
theorem fE_upd {yv wv vS vK : Value} {cs : Array Value} {j g o i q : Nat} {V : Nat → Value} {v : Value} (hq : q < 17) (hd : ∀ r, r = q ∨ r ∈ depE.getD q [] → r ≠ i) (h : fE yv wv vS vK cs j g o q V) : fE yv wv vS vK cs j g o q (upd V i v) := by
  have hu : ∀ r, r = q ∨ r ∈ depE.getD q [] → upd V i v r = V r := fun r hr => upd_ne (hd r hr)
  obtain rfl | rfl | rfl | rfl | rfl | rfl | rfl | rfl | rfl | rfl | rfl | rfl | rfl | rfl | rfl | rfl | rfl : q = 0 ∨ q = 1 ∨ q = 2 ∨ q = 3 ∨ q = 4 ∨ q = 5 ∨ q = 6 ∨ q = 7 ∨ q = 8 ∨ q = 9 ∨ q = 10 ∨ q = 11 ∨ q = 12 ∨ q = 13 ∨ q = 14 ∨ q = 15 ∨ q = 16 := by omega
  all_goals simp only [depE, Array.getD, List.size_toArray, List.length_cons, List.length_nil, Nat.reduceAdd, Nat.reduceLT, dite_true, List.getElem_toArray, List.getElem_cons_succ, List.getElem_cons_zero, List.mem_cons, List.not_mem_nil, or_false, Array.getInternal_eq_getElem] at hu
  · simp only [fE] at h ⊢; rw [hu 0 (by simp)]; exact h
  · simp only [fE] at h ⊢; rw [hu 1 (by simp)]; exact h
  · simp only [fE] at h ⊢; rw [hu 2 (by simp)]; exact h
  · simp only [fE] at h ⊢; rw [hu 3 (by simp)]; exact h
  · simp only [fE] at h ⊢; rw [hu 4 (by simp)]; exact h
  · simp only [fE] at h ⊢; rw [hu 5 (by simp)]; exact h
  · simp only [fE] at h ⊢; rw [hu 5 (by simp), hu 6 (by simp)]; exact h
  · simp only [fE] at h ⊢; rw [hu 5 (by simp), hu 7 (by simp)]; exact h
  · simp only [fE] at h ⊢; rw [hu 5 (by simp), hu 8 (by simp)]; exact h
  · simp only [fE] at h ⊢; rw [hu 5 (by simp), hu 9 (by simp)]; exact h
  · simp only [fE] at h ⊢; rw [hu 5 (by simp), hu 10 (by simp)]; exact h
  · simp only [fE] at h ⊢; rw [hu 5 (by simp), hu 11 (by simp)]; exact h
  · simp only [fE] at h ⊢; rw [hu 5 (by simp), hu 12 (by simp)]; exact h
  · simp only [fE] at h ⊢; rw [hu 5 (by simp), hu 13 (by simp)]; exact h
  · simp only [fE] at h ⊢; rw [hu 5 (by simp), hu 14 (by simp)]; exact h
  · simp only [fE] at h ⊢; rw [hu 5 (by simp), hu 14 (by simp), hu 15 (by simp)]; exact h
  · simp only [fE] at h ⊢; rw [hu 5 (by simp), hu 14 (by simp), hu 16 (by simp)]; exact h
/-- What is known of the world. -/
def phE (n0 : Nat) (J Jx : List EBlo → World → Prop) (pre : List EBlo) (x : EBlo) (wr : World) (X : Nat → Prop) (V : Nat → Value) (w : World) : Prop :=
  (¬ X 5 → w = wr.drew) ∧ (X 5 → ∀ b, V 5 = .bool b → (b = false → ∃ q, Jx (pre ++ q) w) ∧ (b = true → (¬ X 14 → J (pre ++ [x]) w ∧ KpC n0 wr.drew w) ∧
    (X 14 → ∀ c, V 14 = .bool c → (c = true → ∃ zs : List EBlo, zs.map (fun x : EBlo => x.b) = listL x.b.kids ∧ J (pre ++ [x] ++ zs) w ∧ KpC n0 wr.drew w) ∧ (c = false → ∃ q, Jx (pre ++ q) w))))
theorem phE_same {n0 : Nat} {J Jx : List EBlo → World → Prop} {pre : List EBlo} {x : EBlo} {wr w : World} {X : Nat → Prop} {V : Nat → Value} {i : Nat} {v : Value} (h5 : i ≠ 5) (h14 : i ≠ 14) (h : phE n0 J Jx pre x wr X V w) : phE n0 J Jx pre x wr (fun j => j = i ∨ X j) (upd V i v) w := by
  unfold phE at h ⊢
  dsimp only
  have e5 : (5 = i ∨ X 5) = X 5 := propext ⟨fun q => q.elim (fun e => absurd e.symm h5) id, .inr⟩
  have e14 : (14 = i ∨ X 14) = X 14 := propext ⟨fun q => q.elim (fun e => absurd e.symm h14) id, .inr⟩
  rw [e5, e14, upd_ne (fun e => h5 e.symm), upd_ne (fun e => h14 e.symm)]; exact h
set_option maxRecDepth 100000 in
set_option maxHeartbeats 6400000 in
theorem eachreg {ops : Array Oper} {rid k : Nat} {a : Act} {wr : World} {Q : Exit → Act → World → Prop} (l n0 g o m c YC WK j : Nat) (J Jx : List EBlo → World → Prop) (pre : List EBlo) (x : EBlo) (cs : Array Value)
    (hc : facB ops 17 16 #[[]] depE 28 = true)
    (p0 : OpG ops 0 (.load 105 (.tmp 1)) (some 11) (none))
    (p1 : OpG ops 1 (.move (.tmp 0)) (some 12) (none))
    (p2 : OpG ops 2 (.move (.tmp 5)) (some 13) (none))
    (p3 : OpG ops 3 (.indexAddr 23 (.tmp 12) (.tmp 13)) (some 14) (none))
    (p4 : OpG ops 4 (.load 38 (.tmp 14)) (some 15) (none))
    (p5 : OpG ops 5 (.call { callee := .value (.tmp 11), args := #[.tmp 15], argTypes := #[38] }) (some 16) (none))
    (p6 : OpG ops 6 (.unOp .not 4 (.tmp 16)) (some 17) (none))
    (p7 : OpG ops 7 (.move (.tmp 17)) (some 18) (none))
    (p8 : OpG ops 8 (.load 106 (.tmp 2)) (some 19) (some (7, false)))
    (p9 : OpG ops 9 (.move (.tmp 0)) (some 20) (some (7, false)))
    (p10 : OpG ops 10 (.move (.tmp 5)) (some 21) (some (7, false)))
    (p11 : OpG ops 11 (.indexAddr 23 (.tmp 20) (.tmp 21)) (some 22) (some (7, false)))
    (p12 : OpG ops 12 (.fieldAddr 38 (.tmp 22) 8) (some 23) (some (7, false)))
    (p13 : OpG ops 13 (.load 23 (.tmp 23)) (some 24) (some (7, false)))
    (p14 : OpG ops 14 (.call { callee := .value (.tmp 19), args := #[.tmp 24], argTypes := #[23] }) (some 25) (some (7, false)))
    (p15 : OpG ops 15 (.unOp .not 4 (.tmp 25)) (some 26) (some (7, false)))
    (p16 : OpG ops 16 (.pick (.tmp 18) (.const (.bool true)) (.tmp 26)) (some 27) (none))
    (hz : 28 ≤ a.tmps.size) (h0 : a.eval (.tmp 0) = .slice (some ⟨g, o, none⟩) m c) (h1 : a.eval (.tmp 1) = .pointer (some ⟨YC, 0, none⟩)) (h2 : a.eval (.tmp 2) = .pointer (some ⟨WK, 0, none⟩)) (h5 : a.eval (.tmp 5) = .int .i64 j) (hjm : j < m) (hm : m ≤ 1000000)
    (hyc : Blk wr YC 105 #[.func (.yield l) #[] #[]]) (hwk : Blk wr WK 106 #[wkV YC WK]) (hg0 : g < n0) (hn0 : n0 ≤ wr.heap.size) (hcs : cs = (bloC x.b x.vC x.vP x.vL x.vK).toArray)
    (hcell : ∀ i u, (bloC x.b x.vC x.vP x.vL x.vK)[i]? = some u → wr.cell? ⟨g, o + j * 11 + i, none⟩ = some u)
    (HY : YieldAt Fence.wide (k - 1) Tryz.prog l (EBlo.enc x) wr.drew fun e W' => (e = .returned (.bool true) ∧ J (pre ++ [x]) W' ∧ KpC n0 wr.drew W') ∨ (e = .returned (.bool false) ∧ Jx (pre ++ [x]) W'))
    (HR : ∀ W3, J (pre ++ [x]) W3 → KpC n0 wr.drew W3 → CallsIn Fence.wide (k - 1) Tryz.prog 49 #[x.vK, .pointer (some ⟨YC, 0, none⟩), .pointer (some ⟨WK, 0, none⟩)] W3 (EachP n0 J Jx (pre ++ [x]) x.b.kids W3))
    (hend : ∀ (V : Nat → Value) w', (V 16 = .bool true ∧ ∃ q, Jx (pre ++ q) w') ∨ (V 16 = .bool false ∧ ∃ zs : List EBlo, zs.map (fun x : EBlo => x.b) = listL x.b.kids ∧ J (pre ++ [x] ++ zs) w' ∧ KpC n0 wr.drew w') → Q .normal (((((((((((((((((a.put (some 11) (V 0)).put (some 12) (V 1)).put (some 13) (V 2)).put (some 14) (V 3)).put (some 15) (V 4)).put (some 16) (V 5)).put (some 17) (V 6)).put (some 18) (V 7)).put (some 19) (V 8)).put (some 20) (V 9)).put (some 21) (V 10)).put (some 22) (V 11)).put (some 23) (V 12)).put (some 24) (V 13)).put (some 25) (V 14)).put (some 26) (V 15)).put (some 27) (V 16)) w') :
    (Code.region rid ops true).wpIn Fence.wide k Tryz.prog Q a wr := by
  have e0 := opG_dst p0
  have e1 := opG_dst p1
  have e2 := opG_dst p2
  have e3 := opG_dst p3
  have e4 := opG_dst p4
  have e5 := opG_dst p5
  have e6 := opG_dst p6
  have e7 := opG_dst p7
  have e8 := opG_dst p8
  have e9 := opG_dst p9
  have e10 := opG_dst p10
  have e11 := opG_dst p11
  have e12 := opG_dst p12
  have e13 := opG_dst p13
  have e14 := opG_dst p14
  have e15 := opG_dst p15
  have e16 := opG_dst p16
  have hout : ∀ t, t < 11 → ∀ j, j < 17 → dstB ops j ≠ some t := by
    intro t ht i hj
    obtain rfl | rfl | rfl | rfl | rfl | rfl | rfl | rfl | rfl | rfl | rfl | rfl | rfl | rfl | rfl | rfl | rfl : i = 0 ∨ i = 1 ∨ i = 2 ∨ i = 3 ∨ i = 4 ∨ i = 5 ∨ i = 6 ∨ i = 7 ∨ i = 8 ∨ i = 9 ∨ i = 10 ∨ i = 11 ∨ i = 12 ∨ i = 13 ∨ i = 14 ∨ i = 15 ∨ i = 16 := by omega
    all_goals simp [e0, e1, e2, e3, e4, e5, e6, e7, e8, e9, e10, e11, e12, e13, e14, e15, e16]
    all_goals omega
  refine wp_regionIn_gen 17 16 28 depE hc (by rfl) hz (fun X V w => (∀ q, q < 17 → X q → fE (.func (.yield l) #[] #[]) (wkV YC WK) (.slice (some ⟨g, o, none⟩) m c) x.vK cs j g o q V) ∧ phE n0 J Jx pre x wr X V w) ?_ ?_ ?_
  · intro V
    exact ⟨fun q _ h => h.elim, fun _ => rfl, fun h => h.elim⟩
  · intro i hi X V a' w' ⟨hF, hP⟩ hXi hcl hdX hval hR K hK
    have ev : ∀ j, j < 17 → X j → ∀ d, dstB ops j = some d → a'.eval (.tmp d) = V j := fun j hj h d hd => by
      show a'.tmps.getD d undef = _
      rw [Array.getD_eq_getD_getElem?, hval j hj h d hd]; rfl
    have t0 := (hR 0 (hout 0 (by omega))).trans h0
    have t1 := (hR 1 (hout 1 (by omega))).trans h1
    have t2 := (hR 2 (hout 2 (by omega))).trans h2
    have t5 := (hR 5 (hout 5 (by omega))).trans h5
    have hFu : ∀ v q, q < 17 → X q → fE (.func (.yield l) #[] #[]) (wkV YC WK) (.slice (some ⟨g, o, none⟩) m c) x.vK cs j g o q (upd V i v) := fun v q hq h => fE_upd hq (fun r hr e => by
      rcases hr with rfl | hr
      · exact hXi (e ▸ h)
      · exact hXi (e ▸ hcl q hq h r hr)) (hF q hq h)
    have same : i ≠ 5 → i ≠ 14 → ∀ v, fE (.func (.yield l) #[] #[]) (wkV YC WK) (.slice (some ⟨g, o, none⟩) m c) x.vK cs j g o i (upd V i v) → K (a'.put (dstB ops i) v) w' := fun q5 q14 v h => hK v w' ⟨fun q hq h' => by
      rcases h' with rfl | h'
      · exact h
      · exact hFu v q hq h', phE_same q5 q14 hP⟩
    -- behind the round: what it has answered
    have after5 : X 5 → ∃ b, V 5 = .bool b ∧ (b = true → ¬ X 14 → J (pre ++ [x]) w' ∧ KpC n0 wr.drew w') := fun h => by
      obtain ⟨b, hb⟩ := hF 5 (by omega) h
      exact ⟨b, hb, fun q q2 => ((hP.2 h b hb).2 q).1 q2⟩
    have gd : X 7 → X 5 → ∀ b, V 5 = .bool b → yielded ops a'.tmps 7 = some (!b) := fun h7 h5' b hb => by
      obtain ⟨b', h1', h2'⟩ := hF 7 (by omega) h7
      rw [hb] at h1'
      cases h1'
      have := hval 7 (by omega) h7 _ e7
      rw [h2'] at this
      exact yielded_of e7 this
    obtain rfl | rfl | rfl | rfl | rfl | rfl | rfl | rfl | rfl | rfl | rfl | rfl | rfl | rfl | rfl | rfl | rfl : i = 0 ∨ i = 1 ∨ i = 2 ∨ i = 3 ∨ i = 4 ∨ i = 5 ∨ i = 6 ∨ i = 7 ∨ i = 8 ∨ i = 9 ∨ i = 10 ∨ i = 11 ∨ i = 12 ∨ i = 13 ∨ i = 14 ∨ i = 15 ∨ i = 16 := by omega
    · have hw : w' = wr.drew := hP.1 (fun h => hXi (hcl 5 (by omega) h 0 (by simp [depE])))
      have cc : w'.cell? ⟨YC, 0, none⟩ = some (.func (.yield l) #[] #[]) := by rw [hw]; exact hyc.cell 0 _ rfl
      refine opG_val p0 (by intro j b h; cases h) (fun o1 ho => ?_) (same (by omega) (by omega) (.func (.yield l) #[] #[]) (upd_same _ _ _))
      simp only [execOp, ho, t1]; simp [go_sem, cc, Tryz.underlying105]
    · refine opG_val p1 (by intro j b h; cases h) (fun o1 ho => ?_) (same (by omega) (by omega) _ (upd_same _ _ _))
      simp only [execOp, ho, t0]; simp [go_sem]
    · refine opG_val p2 (by intro j b h; cases h) (fun o1 ho => ?_) (same (by omega) (by omega) _ (upd_same _ _ _))
      simp only [execOp, ho, t5]; simp [go_sem]
    · have z1 := (ev 1 (by omega) (hdX 1 (by simp [depE])) _ e1).trans (hF 1 (by omega) (hdX 1 (by simp [depE])))
      have z2 := (ev 2 (by omega) (hdX 2 (by simp [depE])) _ e2).trans (hF 2 (by omega) (hdX 2 (by simp [depE])))
      refine opG_val p3 (by intro j b h; cases h) (fun o1 ho => ?_) (same (by omega) (by omega) (.pointer (some ⟨g, o + j * 11, none⟩)) (upd_same _ _ _))
      simp only [execOp, ho, z1, z2]; simp [go_sem, Tryz.underlying23, Tryz.sizeBlE]; intro hh; omega
    · have hw : w' = wr.drew := hP.1 (fun h => hXi (hcl 5 (by omega) h 4 (by simp [depE])))
      have z3 := (ev 3 (by omega) (hdX 3 (by simp [depE])) _ e3).trans (hF 3 (by omega) (hdX 3 (by simp [depE])))
      refine opG_val p4 (by intro j b h; cases h) (fun o1 ho => ?_) (same (by omega) (by omega) (.agg cs) (upd_same _ _ _))
      unfold execOp
      simp only [ho, z3, Instr.loadAt, Instr.sureAddr, Sem.run_bind, Sem.run_pure, Result.andThen_ok, run_loadVar_mid w' g (o + j * 11) 38 (bloC x.b x.vC x.vP x.vL x.vK) _ (fun i u hu => by rw [hw]; exact hcell i u hu) Tryz.underlying38 rfl Tryz.sizeBlE, hcs]
    · have hw : w' = wr.drew := hP.1 hXi
      have z0 := (ev 0 (by omega) (hdX 0 (by simp [depE])) _ e0).trans (hF 0 (by omega) (hdX 0 (by simp [depE])))
      have z4 := (ev 4 (by omega) (hdX 4 (by simp [depE])) _ e4).trans (hF 4 (by omega) (hdX 4 (by simp [depE])))
      obtain ⟨fn, tmps, assign, body, hy, hRR⟩ := HY
      have hy' : (Instr.yield l #[.agg cs]).run Tryz.prog wr.drew = .ok (.round l fn tmps assign body) wr.drew := by rw [hcs]; exact hy
      have h14 : ¬ X 14 := fun h => hXi (hcl 14 (by omega) h 5 (by simp [depE]))
      refine opG_do p5 (by intro j b h; cases h) (fun o1 ho hd => ?_)
      subst hw
      have hx : (execOp a'.eval o1).run Tryz.prog wr.drew = .ok (.round l fn tmps assign body) wr.drew := by
        simp only [execOp, ho, resolve, List.map_toArray, List.map_cons, List.map_nil, z0, z4]
        simp [go_sem, invoke, hy']
      rw [hx, Oper.uponIn_round]
      refine ⟨(fun h => by cases h), hRR.mono ?_⟩
      have hput : ∀ v w'', K (a'.put (dstB ops 5) v) w'' → K (a'.put o1.dst v) w'' := fun v w'' h => by rw [hd, ← e5]; exact h
      rintro e w'' (⟨rfl, hJ, hk⟩ | ⟨rfl, hJx⟩)
      · refine hput _ _ (hK (.bool true) w'' ⟨fun q hq h' => ?_, fun h => absurd (.inl rfl) h, fun _ b hb => ?_⟩)
        · rcases h' with rfl | h'
          · exact ⟨true, upd_same _ _ _⟩
          · exact hFu _ q hq h'
        · rw [upd_same] at hb
          cases hb
          exact ⟨(fun h => by cases h), fun _ => ⟨fun _ => ⟨hJ, hk⟩, fun h => absurd (h.resolve_left (by omega)) h14⟩⟩
      · refine hput _ _ (hK (.bool false) w'' ⟨fun q hq h' => ?_, fun h => absurd (.inl rfl) h, fun _ b hb => ?_⟩)
        · rcases h' with rfl | h'
          · exact ⟨false, upd_same _ _ _⟩
          · exact hFu _ q hq h'
        · rw [upd_same] at hb
          cases hb
          exact ⟨fun _ => ⟨[x], hJx⟩, fun h => by cases h⟩
    · obtain ⟨b, hb⟩ := hF 5 (by omega) (hdX 5 (by simp [depE]))
      have z5 := (ev 5 (by omega) (hdX 5 (by simp [depE])) _ e5).trans hb
      refine opG_val p6 (by intro j b h; cases h) (fun o1 ho => ?_) (same (by omega) (by omega) (.bool (!b)) ⟨b, (upd_ne (by omega)).trans hb, upd_same _ _ _⟩)
      simp only [execOp, ho, z5]; simp [go_sem]
    · obtain ⟨b, hb, hb6⟩ := hF 6 (by omega) (hdX 6 (by simp [depE]))
      have z6 := (ev 6 (by omega) (hdX 6 (by simp [depE])) _ e6).trans hb6
      refine opG_val p7 (by intro j b h; cases h) (fun o1 ho => ?_) (same (by omega) (by omega) (.bool (!b)) ⟨b, (upd_ne (by omega)).trans hb, upd_same _ _ _⟩)
      simp only [execOp, ho, z6]; simp [go_sem]
    · obtain ⟨b, hb, hJb⟩ := after5 (hdX 5 (by simp [depE]))
      have gy := gd (hdX 7 (by simp [depE])) (hdX 5 (by simp [depE])) b hb
      cases b with
      | false => exact opG_skip p8 gy (by decide) (same (by omega) (by omega) _ (fun h => by rw [upd_ne (by omega), hb] at h; cases h))
      | true =>
        have gw : ∀ q c, (some (7, false) : Option (Nat × Bool)) = some (q, c) → yielded ops a'.tmps q = some c := fun q c h => by cases h; exact gy
        have h14 : ¬ X 14 := fun h => hXi (hcl 14 (by omega) h 8 (by simp [depE]))
        obtain ⟨hJ3, hK3⟩ := hJb rfl h14
        have cc : w'.cell? ⟨WK, 0, none⟩ = some (wkV YC WK) := (hK3.blk (hwk.kept (kept_drewN wr 1))).cell 0 _ rfl
        refine opG_val p8 gw (fun o1 ho => ?_) (same (by omega) (by omega) (wkV YC WK) (fun _ => upd_same _ _ _))
        simp only [execOp, ho, t2]; simp [go_sem, cc, Tryz.underlying106]
    · obtain ⟨b, hb, hJb⟩ := after5 (hdX 5 (by simp [depE]))
      have gy := gd (hdX 7 (by simp [depE])) (hdX 5 (by simp [depE])) b hb
      cases b with
      | false => exact opG_skip p9 gy (by decide) (same (by omega) (by omega) _ (fun h => by rw [upd_ne (by omega), hb] at h; cases h))
      | true =>
        have gw : ∀ q c, (some (7, false) : Option (Nat × Bool)) = some (q, c) → yielded ops a'.tmps q = some c := fun q c h => by cases h; exact gy
        refine opG_val p9 gw (fun o1 ho => ?_) (same (by omega) (by omega) _ (fun _ => upd_same _ _ _))
        simp only [execOp, ho, t0]; simp [go_sem]
    · obtain ⟨b, hb, hJb⟩ := after5 (hdX 5 (by simp [depE]))
      have gy := gd (hdX 7 (by simp [depE])) (hdX 5 (by simp [depE])) b hb
      cases b with
      | false => exact opG_skip p10 gy (by decide) (same (by omega) (by omega) _ (fun h => by rw [upd_ne (by omega), hb] at h; cases h))
      | true =>
        have gw : ∀ q c, (some (7, false) : Option (Nat × Bool)) = some (q, c) → yielded ops a'.tmps q = some c := fun q c h => by cases h; exact gy
        refine opG_val p10 gw (fun o1 ho => ?_) (same (by omega) (by omega) _ (fun _ => upd_same _ _ _))
        simp only [execOp, ho, t5]; simp [go_sem]
    · obtain ⟨b, hb, hJb⟩ := after5 (hdX 5 (by simp [depE]))
      have gy := gd (hdX 7 (by simp [depE])) (hdX 5 (by simp [depE])) b hb
      cases b with
      | false => exact opG_skip p11 gy (by decide) (same (by omega) (by omega) _ (fun h => by rw [upd_ne (by omega), hb] at h; cases h))
      | true =>
        have gw : ∀ q c, (some (7, false) : Option (Nat × Bool)) = some (q, c) → yielded ops a'.tmps q = some c := fun q c h => by cases h; exact gy
        have z1 := (ev 9 (by omega) (hdX 9 (by simp [depE])) _ e9).trans (hF 9 (by omega) (hdX 9 (by simp [depE])) hb)
        have z2 := (ev 10 (by omega) (hdX 10 (by simp [depE])) _ e10).trans (hF 10 (by omega) (hdX 10 (by simp [depE])) hb)
        refine opG_val p11 gw (fun o1 ho => ?_) (same (by omega) (by omega) (.pointer (some ⟨g, o + j * 11, none⟩)) (fun _ => upd_same _ _ _))
        simp only [execOp, ho, z1, z2]; simp [go_sem, Tryz.underlying23, Tryz.sizeBlE]; intro hh; omega
    · obtain ⟨b, hb, hJb⟩ := after5 (hdX 5 (by simp [depE]))
      have gy := gd (hdX 7 (by simp [depE])) (hdX 5 (by simp [depE])) b hb
      cases b with
      | false => exact opG_skip p12 gy (by decide) (same (by omega) (by omega) _ (fun h => by rw [upd_ne (by omega), hb] at h; cases h))
      | true =>
        have gw : ∀ q c, (some (7, false) : Option (Nat × Bool)) = some (q, c) → yielded ops a'.tmps q = some c := fun q c h => by cases h; exact gy
        have z1 := (ev 11 (by omega) (hdX 11 (by simp [depE])) _ e11).trans (hF 11 (by omega) (hdX 11 (by simp [depE])) hb)
        refine opG_val p12 gw (fun o1 ho => ?_) (same (by omega) (by omega) (.pointer (some ⟨g, o + j * 11 + 10, none⟩)) (fun _ => upd_same _ _ _))
        simp only [execOp, ho, z1]; simp [go_sem, Tryz.underlying38]
    · obtain ⟨b, hb, hJb⟩ := after5 (hdX 5 (by simp [depE]))
      have gy := gd (hdX 7 (by simp [depE])) (hdX 5 (by simp [depE])) b hb
      cases b with
      | false => exact opG_skip p13 gy (by decide) (same (by omega) (by omega) _ (fun h => by rw [upd_ne (by omega), hb] at h; cases h))
      | true =>
        have gw : ∀ q c, (some (7, false) : Option (Nat × Bool)) = some (q, c) → yielded ops a'.tmps q = some c := fun q c h => by cases h; exact gy
        have h14 : ¬ X 14 := fun h => hXi (hcl 14 (by omega) h 13 (by simp [depE]))
        obtain ⟨hJ3, hK3⟩ := hJb rfl h14
        have z1 := (ev 12 (by omega) (hdX 12 (by simp [depE])) _ e12).trans (hF 12 (by omega) (hdX 12 (by simp [depE])) hb)
        have cc : w'.cell? ⟨g, o + j * 11 + 10, none⟩ = some x.vK := ((hK3.low hn0).cell (p := ⟨g, o + j * 11 + 10, none⟩) hg0).trans (hcell 10 _ rfl)
        refine opG_val p13 gw (fun o1 ho => ?_) (same (by omega) (by omega) x.vK (fun _ => upd_same _ _ _))
        simp only [execOp, ho, z1]; simp [go_sem, cc, Tryz.underlying23]
    · obtain ⟨b, hb, hJb⟩ := after5 (hdX 5 (by simp [depE]))
      have gy := gd (hdX 7 (by simp [depE])) (hdX 5 (by simp [depE])) b hb
      cases b with
      | false =>
        refine opG_skip p14 gy (by decide) (hK undef w' ⟨fun q hq h' => ?_, fun h => absurd (.inr (hdX 5 (by simp [depE]))) h, fun _ b hb' => ?_⟩)
        · rcases h' with rfl | h'
          · exact fun h => by rw [upd_ne (by omega), hb] at h; cases h
          · exact hFu _ q hq h'
        · rw [upd_ne (by omega), hb] at hb'
          cases hb'
          exact ⟨fun _ => (hP.2 (hdX 5 (by simp [depE])) false hb).1 rfl, fun h => by cases h⟩
      | true =>
        have gw : ∀ q c, (some (7, false) : Option (Nat × Bool)) = some (q, c) → yielded ops a'.tmps q = some c := fun q c h => by cases h; exact gy
        have h14 : ¬ X 14 := hXi
        obtain ⟨hJ3, hK3⟩ := hJb rfl h14
        have z1 := (ev 8 (by omega) (hdX 8 (by simp [depE])) _ e8).trans (hF 8 (by omega) (hdX 8 (by simp [depE])) hb)
        have z2 := (ev 13 (by omega) (hdX 13 (by simp [depE])) _ e13).trans (hF 13 (by omega) (hdX 13 (by simp [depE])) hb)
        refine opG_do p14 gw (fun o1 ho hd => ?_)
        have hx : (execOp a'.eval o1).run Tryz.prog w' = .ok (.enter 49 #[x.vK, .pointer (some ⟨YC, 0, none⟩), .pointer (some ⟨WK, 0, none⟩)]) w' := by
          simp only [execOp, ho, resolve, List.map_toArray, List.map_cons, List.map_nil, z1, z2]
          simp [go_sem, invoke, enters_of Tryz.func49 (by kernel_rfl) rfl]
        rw [hx, Oper.uponIn_enter]
        refine ⟨(fun h => by cases h), (HR w' hJ3 hK3).mono ?_⟩
        have hput : ∀ v w'', K (a'.put (dstB ops 14) v) w'' → K (a'.put o1.dst v) w'' := fun v w'' h => by rw [hd, ← e14]; exact h
        have h5X : X 5 := hdX 5 (by simp [depE])
        rintro e w'' (⟨rfl, zs, hz1, hJ4, hk4⟩ | ⟨rfl, q, hJx⟩)
        · refine hput _ _ (hK (.bool true) w'' ⟨fun q hq h' => ?_, fun h => absurd (.inr h5X) h, fun _ b hb' => ?_⟩)
          · rcases h' with rfl | h'
            · exact fun _ => ⟨true, upd_same _ _ _⟩
            · exact hFu _ q hq h'
          · rw [upd_ne (by omega), hb] at hb'
            cases hb'
            refine ⟨(fun h => by cases h), fun _ => ⟨fun h => absurd (.inl rfl) h, fun _ c' hc' => ?_⟩⟩
            rw [upd_same] at hc'
            cases hc'
            exact ⟨fun _ => ⟨zs, hz1, hJ4, hK3.trans hk4⟩, fun h => by cases h⟩
        · refine hput _ _ (hK (.bool false) w'' ⟨fun q hq h' => ?_, fun h => absurd (.inr h5X) h, fun _ b hb' => ?_⟩)
          · rcases h' with rfl | h'
            · exact fun _ => ⟨false, upd_same _ _ _⟩
            · exact hFu _ q hq h'
          · rw [upd_ne (by omega), hb] at hb'
            cases hb'
            refine ⟨(fun h => by cases h), fun _ => ⟨fun h => absurd (.inl rfl) h, fun _ c' hc' => ?_⟩⟩
            rw [upd_same] at hc'
            cases hc'
            exact ⟨(fun h => by cases h), fun _ => ⟨[x] ++ q, by rw [← List.append_assoc]; exact hJx⟩⟩
    · obtain ⟨b, hb, hJb⟩ := after5 (hdX 5 (by simp [depE]))
      have gy := gd (hdX 7 (by simp [depE])) (hdX 5 (by simp [depE])) b hb
      cases b with
      | false => exact opG_skip p15 gy (by decide) (same (by omega) (by omega) _ (fun h => by rw [upd_ne (by omega), hb] at h; cases h))
      | true =>
        have gw : ∀ q c, (some (7, false) : Option (Nat × Bool)) = some (q, c) → yielded ops a'.tmps q = some c := fun q c h => by cases h; exact gy
        obtain ⟨c', hc'⟩ := hF 14 (by omega) (hdX 14 (by simp [depE])) hb
        have z1 := (ev 14 (by omega) (hdX 14 (by simp [depE])) _ e14).trans hc'
        refine opG_val p15 gw (fun o1 ho => ?_) (same (by omega) (by omega) (.bool (!c')) (fun _ => ⟨c', (upd_ne (by omega)).trans hc', upd_same _ _ _⟩))
        simp only [execOp, ho, z1]; simp [go_sem]
    · obtain ⟨b, hb, hb7⟩ := hF 7 (by omega) (hdX 7 (by simp [depE]))
      have z7 := (ev 7 (by omega) (hdX 7 (by simp [depE])) _ e7).trans hb7
      have z15 := ev 15 (by omega) (hdX 15 (by simp [depE])) _ e15
      cases b with
      | false =>
        refine opG_val p16 (by intro j b h; cases h) (fun o1 ho => ?_) (same (by omega) (by omega) (.bool true) ⟨fun _ => upd_same _ _ _, fun h => by rw [upd_ne (by omega), hb] at h; cases h⟩)
        simp only [execOp, ho, z7]; simp [go_sem, z7]
      | true =>
        obtain ⟨c', hc', hc15⟩ := hF 15 (by omega) (hdX 15 (by simp [depE])) hb
        have z15' := z15.trans hc15
        refine opG_val p16 (by intro j b h; cases h) (fun o1 ho => ?_) (same (by omega) (by omega) (.bool (!c')) ⟨(fun h => by rw [upd_ne (by omega), hb] at h; cases h), fun _ => ⟨c', (upd_ne (by omega)).trans hc', upd_same _ _ _⟩⟩)
        simp only [execOp, ho, z7, z15']; simp [go_sem, z7, z15']
  · intro X V w' hX ⟨hF, hP⟩
    have := hend V w' ?_
    · simp only [putAll, e0, e1, e2, e3, e4, e5, e6, e7, e8, e9, e10, e11, e12, e13, e14, e15, e16]
      exact this
    · obtain ⟨b, hb⟩ := hF 5 (by omega) (hX 5 (by omega))
      have h16 := hF 16 (by omega) (hX 16 (by omega))
      have hp := hP.2 (hX 5 (by omega)) b hb
      cases b with
      | false => exact .inl ⟨h16.1 hb, hp.1 rfl⟩
      | true =>
        obtain ⟨c', hc1, hc2⟩ := h16.2 hb
        have hp2 := (hp.2 rfl).2 (hX 14 (by omega)) c' hc1
        cases c' with
        | false => exact .inl ⟨hc2, hp2.2 rfl⟩
        | true => exact .inr ⟨hc2, hp2.1 rfl⟩
set_option maxRecDepth 100000 in
set_option maxHeartbeats 12800000 in
theorem each_walk (l n0 N0 mB YC WK : Nat) (J Jx : List EBlo → World → Prop) (hJd : ∀ s A, J s A → J s A.drew)
    (hY : ∀ m pre x W, J pre W → pre.length < N0 → YieldAt Fence.wide m Tryz.prog l (EBlo.enc x) W fun e W' =>
      (e = .returned (.bool true) ∧ J (pre ++ [x]) W' ∧ KpC n0 W W') ∨ (e = .returned (.bool false) ∧ Jx (pre ++ [x]) W')) :
    ∀ (n : Nat) (k : Nat) (xs : List Blo) (v : Value) (pre : List EBlo) (W : World), Bls (fun g => g < n0) mB n W v xs → xs.length ≤ 1000000 → okBL xs → n0 ≤ W.heap.size → Blk W YC 105 #[.func (.yield l) #[] #[]] → Blk W WK 106 #[wkV YC WK] → J pre W → pre.length + (listL xs).length ≤ N0 →
      CallsIn Fence.wide k Tryz.prog 49 #[v, .pointer (some ⟨YC, 0, none⟩), .pointer (some ⟨WK, 0, none⟩)] W (EachP n0 J Jx pre xs W) := by
  intro n
  induction n with
  | zero =>
    intro k xs v pre W hv hl hok hn hyc hwk hj hN
    obtain rfl := hv.1
    obtain ⟨a, c, rfl, hc⟩ := hv.form
    have HFIN : EachP n0 J Jx pre [] W (.returned (.bool true)) W := .inl ⟨rfl, [], rfl, by simpa using hj, KpC.refl _ _⟩
    generalize EachP n0 J Jx pre [] W = Q at *
    clear hY hv hok hn hyc hwk hj hN hJd
    refine callsIn_of_wp Tryz.func49 rfl trivial ?_ rfl
    simp only [Tryz.ntmps49, List.size_toArray, List.length_cons, List.length_nil, Nat.reduceAdd, Nat.reduceSub, Array.replicate_succ, Array.replicate_zero, List.push_toArray, List.append_toArray, List.nil_append, List.cons_append]
    gi_wp2
    gi_loopw [8] (fun i wr => i = .int .i64 0 ∧ W = wr) (fun i _ => 1)
    case atStart => exact ⟨rfl, rfl⟩
    case round =>
      obtain ⟨rfl, rfl⟩ := hrel
      gi_wp2
      (try go_ret)
      exact HFIN
  | succ n ih =>
    intro k xs v pre W hv hl hok hn hyc hwk hj hN
    have HV := Lib.hid hv
    have HOK := Lib.hid hok
    have HY := Lib.hid hY
    have HJD := Lib.hid hJd
    have HIH := Lib.hid ih
    have HYC := Lib.hid hyc
    have HWK := Lib.hid hwk
    have HJ := Lib.hid hj
    have HTK := Lib.hid (fun (k : Nat) (x : Blo) h => listL_take (xs := xs) (k := k) (x := x) h)
    have HLE := Lib.hid (listL_le xs)
    obtain ⟨a, c, rfl, hc⟩ := hv.form
    have HFIN : Hid (∀ ys W', ys.map (fun x : EBlo => x.b) = listL (xs.take xs.length) → J (pre ++ ys) W' → KpC n0 W W' → EachP n0 J Jx pre xs W (.returned (.bool true)) W') := fun ys W' h1 h2 h3 => .inl ⟨rfl, ys, by rw [List.take_length] at h1; exact h1, h2, h3⟩
    have HNO : Hid (∀ q W', Jx (pre ++ q) W' → EachP n0 J Jx pre xs W (.returned (.bool false)) W') := fun q W' h => .inr ⟨rfl, q, h⟩
    unfold EachP at HIH
    generalize EachP n0 J Jx pre xs W = Q at *
    clear hY hv hok hyc hwk hj ih hJd
    have hdd : ∀ k : Nat, (Fence.wide.depth.isSome = true → 1 ≤ k) := fun k h => by cases h
    refine callsIn_of_wp Tryz.func49 rfl trivial ?_ rfl
    simp only [Tryz.ntmps49, List.size_toArray, List.length_cons, List.length_nil, Nat.reduceAdd, Nat.reduceSub, Array.replicate_succ, Array.replicate_zero, List.push_toArray, List.append_toArray, List.nil_append, List.cons_append]
    gi_wp2
    gi_loopw [8] (fun i wr => ∃ (j : Nat) (ys : List EBlo), j ≤ xs.length ∧ i = .int .i64 j ∧ Hid (ys.map (fun x : EBlo => x.b) = listL (xs.take j) ∧ J (pre ++ ys) wr ∧ KpC n0 W wr)) (fun i _ => xs.length - (intOf i).toNat)
    case atStart => exact ⟨0, [], Nat.zero_le _, rfl, rfl, by simpa using HJ.out, KpC.refl _ _⟩
    case round =>
      obtain ⟨j, ys, hj, rfl, HR⟩ := hrel
      by_cases hlt : j < xs.length
      · obtain ⟨x, hx⟩ : ∃ x, xs[j]? = some x := ⟨_, List.getElem?_eq_getElem hlt⟩
        obtain ⟨hys, hJ, hK⟩ := HR.out
        have hlow := hK.low hn
        have HVR := Lib.hid (HV.out.sam (S' := fun g => g < n0) (Sam.below hlow (fun g q => q)) (fun _ _ q => q))
        have HYR := Lib.hid (hK.blk HYC.out)
        have HWR := Lib.hid (hK.blk HWK.out)
        have hfit := (okBL_at HOK.out x (List.mem_of_getElem? hx)).fit
        have HT := Lib.hid (HTK.out j x hx)
        have HTL := Lib.hid (HLE.out (j + 1))
        have hyl : ys.length = (listL (xs.take j)).length := by rw [← hys]; simp
        obtain ⟨g, o, vC, vP, vL, vK, rfl, hgg, hgS, -, -, ⟨d0, d1, d2, d3, d4, d5, d6, d7, d8, d9, d10⟩, hcl, ⟨hC, iC⟩, ⟨hPP, iP⟩, hL, hKK⟩ := Bls.at_ HVR.out j x hx
        have oC : ∃ a n c, vC = .slice a n c := by obtain ⟨a, c, h, _⟩ := hC; exact ⟨_, _, _, h⟩
        have oP : ∃ a n c, vP = .slice a n c := by obtain ⟨a, c, h, _⟩ := hPP; exact ⟨_, _, _, h⟩
        have oL : ∃ a n c, vL = .slice a n c := by obtain ⟨a, c, h, _⟩ := hL.form; exact ⟨_, _, _, h⟩
        have oK : ∃ a n c, vK = .slice a n c := by obtain ⟨a, c, h, _⟩ := hKK.form; exact ⟨_, _, _, h⟩
        have HYY := Lib.hid (HY.out (k - 1) (pre ++ ys) ⟨x, vC, vP, vL, vK, oC, oP, oL, oK⟩ wr.drew (HJD.out _ _ hJ) (by
          have h1 := HTL.out
          rw [HT.out] at h1
          simp only [List.length_append, List.length_cons] at h1 ⊢
          omega))
        have HKID := Lib.hid hKK
        have HCL := Lib.hid hcl
        have hfit2 := hfit.2.2
        have hkl : x.kids.length ≤ 1000000 := by have := hfit.1; omega
        have HRR : Hid (∀ W3, J (pre ++ ys ++ [⟨x, vC, vP, vL, vK, oC, oP, oL, oK⟩]) W3 → KpC n0 wr.drew W3 → CallsIn Fence.wide (k - 1) Tryz.prog 49 #[vK, .pointer (some ⟨YC, 0, none⟩), .pointer (some ⟨WK, 0, none⟩)] W3 (EachP n0 J Jx (pre ++ ys ++ [⟨x, vC, vP, vL, vK, oC, oP, oL, oK⟩]) x.kids W3)) := fun W3 h1 h2 =>
          HIH.out (k - 1) x.kids vK _ W3 ((HKID.out.sam (S' := fun g => g < n0) (Sam.kept (kept_drewN wr 1)) (fun _ _ q => q)).sam (S' := fun g => g < n0) (Sam.below (h2.low (show n0 ≤ wr.drew.heap.size from Nat.le_trans hn hK.size)) (fun g q => q)) (fun _ _ q => q)) hkl hfit2 (Nat.le_trans (Nat.le_trans hn hK.size) h2.size) (h2.blk (HYR.out.kept (kept_drewN wr 1))) (h2.blk (HWR.out.kept (kept_drewN wr 1))) h1 (by
            have h3 := HTL.out
            rw [HT.out] at h3
            simp only [List.length_append, List.length_cons, List.length_nil] at h3 ⊢
            omega)
        have hnr : n0 ≤ wr.heap.size := Nat.le_trans hn hK.size
        have HKW := Lib.hid hK
        have HYS := Lib.hid hys
        clear hKK hcl hfit2 hkl hC iC hPP iP hL hx hJ hys hK hlow hfit d0 d1 d2 d3 d4 d5 d6 d7 d8 d9 d10 HVR hyl
        gi_wp2
        refine eachreg l n0 g o xs.length c YC WK j J Jx (pre ++ ys) ⟨x, vC, vP, vL, vK, oC, oP, oL, oK⟩ _ (by kernel_rfl) ⟨_, rfl, rfl, rfl, rfl⟩ ⟨_, rfl, rfl, rfl, rfl⟩ ⟨_, rfl, rfl, rfl, rfl⟩ ⟨_, rfl, rfl, rfl, rfl⟩ ⟨_, rfl, rfl, rfl, rfl⟩ ⟨_, rfl, rfl, rfl, rfl⟩ ⟨_, rfl, rfl, rfl, rfl⟩ ⟨_, rfl, rfl, rfl, rfl⟩ ⟨_, rfl, rfl, rfl, rfl⟩ ⟨_, rfl, rfl, rfl, rfl⟩ ⟨_, rfl, rfl, rfl, rfl⟩ ⟨_, rfl, rfl, rfl, rfl⟩ ⟨_, rfl, rfl, rfl, rfl⟩ ⟨_, rfl, rfl, rfl, rfl⟩ ⟨_, rfl, rfl, rfl, rfl⟩ ⟨_, rfl, rfl, rfl, rfl⟩ ⟨_, rfl, rfl, rfl, rfl⟩ (by simp) rfl rfl rfl rfl hlt hl HYR.out HWR.out hgS hnr rfl HCL.out HYY.out HRR.out ?_
        intro V w3 hV
        have HV3 := Lib.hid hV
        clear hV HYY HRR
        simp only [Act.put, List.setIfInBounds_toArray, List.set_cons_zero, List.set_cons_succ]
        rcases HV3.out with ⟨hV16, q, hJx⟩ | ⟨hV16, zs, hz1, hJ3, hk3⟩
        · have HF := Lib.hid (HNO.out (ys ++ q) w3 (by rw [← List.append_assoc]; exact hJx))
          clear HV3 hJx
          rw [hV16]
          clear hV16
          gi_wp2
          (try go_ret)
          exact HF.out
        · have HN : Hid ((ys ++ (⟨x, vC, vP, vL, vK, oC, oP, oL, oK⟩ :: zs) : List EBlo).map (fun x : EBlo => x.b) = listL (xs.take (j + 1)) ∧ J (pre ++ (ys ++ (⟨x, vC, vP, vL, vK, oC, oP, oL, oK⟩ :: zs))) w3 ∧ KpC n0 W w3) := ⟨by rw [List.map_append, HYS.out, List.map_cons, hz1, HT.out], by
            have e : pre ++ (ys ++ (⟨x, vC, vP, vL, vK, oC, oP, oL, oK⟩ :: zs)) = pre ++ ys ++ [⟨x, vC, vP, vL, vK, oC, oP, oL, oK⟩] ++ zs := by simp
            rw [e]; exact hJ3, HKW.out.trans ((KpC.of_kept (kept_drewN wr 1)).trans hk3)⟩
          clear HV3 hJ3 hz1 hk3
          rw [hV16]
          clear hV16
          gi_wp2
          go_roundw
          case rel => exact ⟨j + 1, _, by omega, by go_num, HN.out⟩
          case measure => simp [intOf]; omega
      · obtain rfl : j = xs.length := by omega
        have HF := Lib.hid (HFIN.out ys wr HR.out.1 HR.out.2.1 HR.out.2.2)
        clear HR
        gi_wp2
        (try go_ret)
        exact HF.out
set_option maxRecDepth 100000 in
set_option maxHeartbeats 3200000 in
theorem each1_in (l n0 mB n k LB : Nat) (J Jx : List EBlo → World → Prop) (xs : List Blo) (v : Value) (W : World) (hJ : AbidesFrom W.heap.size J)
    (hY : ∀ pre x W1, J pre W1 → pre.length < (listL xs).length → YieldAt Fence.wide (k - 1) Tryz.prog l (EBlo.enc x) W1 fun e W' =>
      (e = .returned (.bool true) ∧ J (pre ++ [x]) W' ∧ KpC n0 W1 W') ∨ (e = .returned (.bool false) ∧ Jx (pre ++ [x]) W'))
    (hv : Bls (fun g => g < n0) mB n W v xs) (hl : xs.length ≤ 1000000) (hok : okBL xs) (hn : n0 ≤ W.heap.size) (hB : Blk W LB 23 #[v]) (h0 : J [] W) :
    CallsIn Fence.wide k Tryz.prog 48 #[.func (.yield l) #[] #[], .pointer (some ⟨LB, 0, none⟩)] W fun e W' => (∃ v, e = .returned v) ∧
      ((∃ ys : List EBlo, ys.map (fun x : EBlo => x.b) = listL xs ∧ J ys W') ∨ (∃ pre, True ∧ Jx pre W')) := by
  have hdd : ∀ k : Nat, (Fence.wide.depth.isSome = true → 1 ≤ k) := fun k h => by cases h
  have HV := Lib.hid hv
  obtain ⟨a, c, rfl, hc⟩ := hv.form
  have b0 : W.cell? ⟨LB, 0, none⟩ = some (.slice a xs.length c) := hB.cell 0 _ rfl
  have bz := hB.lt
  have HA : Hid (∀ W2, Kept W W2 → J [] W2) := fun W2 h => hJ [] W W2 none h0 ⟨h.os, h.tape, h.output, h.size, fun i hi _ => h.block i hi⟩ (fun r e => by cases e)
  have HW : Hid (∀ W2 YC WK, Kept W W2 → Blk W2 YC 105 #[.func (.yield l) #[] #[]] → Blk W2 WK 106 #[wkV YC WK] → CallsIn Fence.wide (k - 1) Tryz.prog 49 #[.slice a xs.length c, .pointer (some ⟨YC, 0, none⟩), .pointer (some ⟨WK, 0, none⟩)] W2 (EachP n0 J Jx [] xs W2)) := fun W2 YC WK h1 h2 h3 =>
    each_walk l n0 (listL xs).length mB YC WK J Jx (fun s A hs => hJ s A A.drew none hs ⟨rfl, rfl, rfl, Nat.le_refl _, fun i hi _ => rfl⟩ (fun r e => by cases e)) (fun m pre x W1 hj hlen => YieldAt.anyD rfl m (hY pre x W1 hj hlen)) n (k - 1) xs _ [] W2 (HV.out.sam (S' := fun g => g < n0) (Sam.kept h1) (fun _ _ q => q)) hl hok (Nat.le_trans hn h1.size) h2 h3 (HA.out W2 h1) (by simp)
  unfold EachP at HW
  clear hY hv hok hJ h0 hB
  have e1 : (W.alloc (.cells #[.func (.yield l) #[] #[]] 105)).heap.size = W.heap.size + 1 := by simp
  have hb1 := (Blk.new W 105 #[.func (.yield l) #[] #[]]).alloc (.cells #[.nilFunc] 106)
  have hb2 := Blk.new (W.alloc (.cells #[.func (.yield l) #[] #[]] 105)) 106 #[.nilFunc]
  rw [e1] at hb2
  have hk1 := (kept_alloc W (.cells #[.func (.yield l) #[] #[]] 105)).trans (kept_alloc _ (.cells #[.nilFunc] 106))
  have x0 : ((W.alloc (.cells #[.func (.yield l) #[] #[]] 105)).alloc (.cells #[.nilFunc] 106)).cell? ⟨W.heap.size + 1, 0, none⟩ = some .nilFunc := hb2.cell 0 _ rfl
  have xf := hb2.free 0
  have xz := hb2.lt
  have HB1 := (Blk.new W 105 #[.func (.yield l) #[] #[]]).alloc (.cells #[wkV W.heap.size (W.heap.size + 1)] 106)
  have HB2 := Blk.new (W.alloc (.cells #[.func (.yield l) #[] #[]] 105)) 106 #[wkV W.heap.size (W.heap.size + 1)]
  rw [e1] at HB2
  have HK2 := (kept_alloc W (.cells #[.func (.yield l) #[] #[]] 105)).trans (kept_alloc _ (.cells #[wkV W.heap.size (W.heap.size + 1)] 106))
  have HWW := Lib.hid (HW.out _ _ _ HK2 HB1 HB2)
  clear hb1 hb2 hk1 e1 HB1 HB2 HK2 HW
  refine callsIn_of_wp Tryz.func48 rfl trivial ?_ rfl
  simp only [Tryz.ntmps48, List.size_toArray, List.length_cons, List.length_nil, Nat.reduceAdd, Nat.reduceSub, Array.replicate_succ, Array.replicate_zero, List.push_toArray, List.append_toArray, List.nil_append, List.cons_append]
  gi_wp2
  refine ⟨trivial, hdd _, HWW.out.mono ?_⟩
  rintro e W3 (⟨rfl, ys, h1, h2, h3⟩ | ⟨rfl, q, h2⟩)
  · gi_wp2
    (try go_end0)
    exact ⟨⟨_, rfl⟩, .inl ⟨ys, h1, by simpa using h2⟩⟩
  · gi_wp2
    (try go_end0)
    exact ⟨⟨_, rfl⟩, .inr ⟨q, trivial, by simpa using h2⟩⟩
set_option maxRecDepth 100000 in
set_option maxHeartbeats 1600000 in
theorem each_any (v : Value) (w : World) (h1 : v.oneCell' = true) : Calls Tryz.prog 28 #[v] w fun e w' => e = .returned (.func (.func 48) #[] #[.pointer (some ⟨w.heap.size, 0, none⟩)]) ∧ w' = w.alloc (.cells #[v] 23) := by
  go_enter Tryz.func28, Tryz.ntmps28
  go_wp2_with fail
  (try go_ret)
  exact ⟨rfl, rfl⟩
end Go.Proofs.YtnbhpmleboildaaGreatDoor

/- The set of identifiers that are used. No condition. -/
set_option linter.all false
namespace Go.Proofs.YtnbhpmleboildaaGreatDoor
open Go.RowKit

def addK (ks : List Bs) (k : Bs) : List Bs := if ks.contains k = true then ks else ks ++ [k]
def addsK (ks l : List Bs) : List Bs := l.foldl addK ks
theorem addsK_snoc (ks l : List Bs) (k : Bs) : addsK ks (l ++ [k]) = addK (addsK ks l) k := by unfold addsK; rw [List.foldl_append]; rfl
theorem addK_len (ks : List Bs) (k : Bs) : (addK ks k).length ≤ ks.length + 1 := by unfold addK; split <;> simp
theorem addsK_len (l : List Bs) : ∀ ks, (addsK ks l).length ≤ ks.length + l.length := by
  induction l with
  | nil => intro ks; exact Nat.le_refl _
  | cons k l ih =>
    intro ks
    have h1 := ih (addK ks k)
    have h2 := addK_len ks k
    show (addsK (addK ks k) l).length ≤ _
    rw [List.length_cons]; omega
theorem findK_at (k : Bs) : ∀ (l : List Bs) (i j : Nat), k ∈ l → ∃ n, l[n]? = some k ∧ Instr.findNow .string (.string (bs k)) (l.mapIdx fun i' x => entK x (i' + i)) j = some (some (n + j, .bool true))
  | [], _, _, h => by cases h
  | x :: l, i, j, h => by
    rw [List.mapIdx_cons]
    unfold Instr.findNow
    by_cases q : x = k
    · have hx : (bs k == bs x) = true := by rw [bs_beq, beq_iff_eq]; exact q.symm
      simp only [entK, Instr.sameNow, hx]
      exact ⟨0, by rw [q]; rfl, by simp⟩
    · have hx : (bs k == bs x) = false := by rw [bs_beq, beq_eq_false_iff_ne]; exact fun e => q e.symm
      have hl : k ∈ l := by rcases List.mem_cons.1 h with e | e; exact absurd e.symm q; exact e
      simp only [entK, Instr.sameNow, hx]
      obtain ⟨m, hm, hm2⟩ := findK_at k l (i + 1) (j + 1) hl
      refine ⟨m + 1, by simpa using hm, ?_⟩
      simp only [entK] at hm2
      have e1 : m + 1 + j = m + (j + 1) := by omega
      rw [e1, ← hm2]
      congr 1
      apply List.ext_getElem?
      intro m
      simp [List.getElem?_mapIdx]
      cases l[m]? <;> simp; omega
theorem runK_at (w : World) (l : List Bs) (k : Bs) (hk : k ∈ l) : ∃ n, l[n]? = some k ∧ (Instr.findKey 9 (.string (bs k)) (entsK l).toList).run Tryz.prog w = .ok (some (n, .bool true)) w := by
  obtain ⟨m, h1, hm⟩ := findK_at k l 0 0 hk
  refine ⟨m, h1, ?_⟩
  unfold Instr.findKey
  simp only [Sem.run_bind, run_underlying Tryz.underlying9, Result.andThen, entsK_list, hm]
  simp [Sem.run_pure]
/-- A key is put, new or not. -/
theorem updK (w : World) (m : Nat) (ks : List Bs) (k : Bs) (h : MapK w m ks) : (Instr.mapUpdate 78 (.map (some m)) (.string (bs k)) (.bool true)).run Tryz.prog w = .ok () (putK w m (addK ks k)) := by
  unfold addK
  by_cases hk : k ∈ ks
  · rw [if_pos (by simpa using hk)]
    have hu : Tryz.prog.underlying 78 = some (.map 9 4) := Tryz.underlying78
    obtain ⟨n, h1, hf⟩ := runK_at w ks k hk
    have hM := h
    unfold MapK at h
    unfold Instr.mapUpdate
    simp only [Sem.run_bind, run_underlying hu, Result.andThen]
    have e1 : (entsK ks)[n]? = some (entK k n) := by unfold entsK; simp [h1]
    simp only [getObj, Sem.run_bind, Sem.run, h, Result.andThen, Sem.run_pure, run_check, hf, setObj, e1, Option.map_some, Option.getD_some, entK, same_str]
    refine congrArg (Result.ok ()) ?_
    unfold putK
    have e2 : ((entsK ks).modify n fun e => { e with key := .string (bs k), val := .bool true }) = entsK ks := by
      apply Array.ext_getElem?
      intro i
      rw [Array.getElem?_modify]
      by_cases q : n = i
      · subst q
        rw [if_pos rfl, e1]
        simp [entK]
      · rw [if_neg q]
    first | rw [e2] | (trace_state; rfl)
  · rw [if_neg (by simpa using hk)]
    exact insK w m ks k h hk
/-- The identifiers of a document. -/
def usedOf (xs : List Blo) : List Bs := addsK (addsK [] ((listL xs).map (·.id))) ((inlsL xs).map (·.id))
theorem usedOf_len (xs : List Blo) : (usedOf xs).length ≤ (listL xs).length + (inlsL xs).length := by
  have h1 := addsK_len ((inlsL xs).map (·.id)) (addsK [] ((listL xs).map (·.id)))
  have h2 := addsK_len ((listL xs).map (·.id)) []
  simp only [List.length_map, List.length_nil] at h1 h2
  unfold usedOf
  omega
end Go.Proofs.YtnbhpmleboildaaGreatDoor
