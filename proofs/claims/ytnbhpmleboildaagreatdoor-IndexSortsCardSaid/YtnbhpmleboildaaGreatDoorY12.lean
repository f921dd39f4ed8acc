/- The sum of two texts. No condition. -/
import Derived.Test.YtnbhpmleboildaaGreatDoorY02
import Derived.Test.YtnbhpmleboildaaGreatDoorY10
import Derived.Test.YtnbhpmleboildaaGreatDoorY11
import Derived.Test.YtnbhpmleboildaaGreatDoorY08
import Derived.Test.YtnbhpmleboildaaGreatDoorY07
import Derived.Test.YtnbhpmleboildaaGreatDoorY01
import Derived.Lib.ItoaLen
import Derived.Orders

set_option linter.all false
namespace Go.Proofs.YtnbhpmleboildaaGreatDoor
open Go.RowKit

theorem add_bsG {P : Program} (a b x : Bs) (n m : Nat) (hx : a ++ b = x) (ha : a.length ≤ n) (hb : b.length ≤ m) (h : n + m ≤ 9223372036854775807) : (∀ w, (Op.stringOp .add (bs a) (bs b)).run P w = .ok (.string (bs x)) w) ∧ x.length ≤ n + m := by
  subst hx
  refine ⟨fun w => ?_, by rw [List.length_append]; omega⟩
  rw [run_string_add_sum w (bs a) (bs b) (by simp only [bs_size]; omega), bs_append]
end Go.Proofs.YtnbhpmleboildaaGreatDoor

/- The closure of index.Marks that gives the next identifier. Conditions: numbers. -/
set_option linter.all false
namespace Go.Proofs.YtnbhpmleboildaaGreatDoor
open Go.RowKit

/-- Between two calls of next: the last number, the identifiers that are used. -/
structure NextS (W0 : World) (L M U : Nat) (used : List Bs) (n : Nat) (w : World) : Prop where
  kept : Kept W0 w
  tab : Lib.TabIs Tryz.prog W0 "internal/strconv.uint64pow10" .u64 Lib.pow10Tab
  lowL : W0.heap.size ≤ L
  lowM : W0.heap.size ≤ M
  lowU : W0.heap.size ≤ U
  cell : Blk w L 3 #[.int .i64 n]
  ucell : Blk w U 78 #[.map (some M)]
  map : MapK w M used
theorem NextS.keptW {W0 : World} {L M U : Nat} {used : List Bs} {n : Nat} {w w' : World} (h : NextS W0 L M U used n w) (k : Kept w w') : NextS W0 L M U used n w' :=
  ⟨h.kept.trans k, h.tab, h.lowL, h.lowM, h.lowU, h.cell.kept k, h.ucell.kept k, MapK_kept h.map k⟩
theorem NextS.neM {W0 : World} {L M U : Nat} {used : List Bs} {n : Nat} {w : World} (h : NextS W0 L M U used n w) : M ≠ L := fun e => by
  have h1 := h.map
  unfold MapK at h1
  have h2 := h.cell
  unfold Blk at h2
  rw [e, h2] at h1; cases h1
theorem NextS.neU {W0 : World} {L M U : Nat} {used : List Bs} {n : Nat} {w : World} (h : NextS W0 L M U used n w) : U ≠ L := fun e => by
  have h1 := h.ucell.cell 0 _ rfl
  have h2 := h.cell.cell 0 _ rfl
  rw [e, h2] at h1; cases h1
/-- Other blocks change. -/
theorem NextS.only {S : Nat → Prop} {W0 : World} {L M U : Nat} {used : List Bs} {n : Nat} {w w' : World} (h : NextS W0 L M U used n w) (k : Only S w w') (hS : ∀ i, S i → W0.heap.size ≤ i ∧ i ≠ L ∧ i ≠ M ∧ i ≠ U) : NextS W0 L M U used n w' :=
  ⟨h.kept.trans' (k.below h.kept.size fun i q => (hS i q).1), h.tab, h.lowL, h.lowM, h.lowU, h.cell.onl k fun q => (hS _ q).2.1 rfl, h.ucell.onl k fun q => (hS _ q).2.2.2 rfl, h.map.only k fun q => (hS _ q).2.2.1 rfl⟩
theorem NextS.set {W0 : World} {L M U : Nat} {used : List Bs} {n : Nat} {w : World} (h : NextS W0 L M U used n w) (m : Nat) : NextS W0 L M U used m (w.setCell ⟨L, 0, none⟩ (.int .i64 m)) :=
  ⟨kept_set h.kept L 0 _ h.lowL, h.tab, h.lowL, h.lowM, h.lowU, h.cell.set 0 _, h.ucell.onl (Only.setCell L 0 _) h.neU, h.map.only (Only.setCell L 0 _) h.neM⟩
theorem NextS.tabW {W0 : World} {L M U : Nat} {used : List Bs} {n : Nat} {w : World} (h : NextS W0 L M U used n w) : Lib.TabIs Tryz.prog w "internal/strconv.uint64pow10" .u64 Lib.pow10Tab := tab_kept h.tab h.kept
def NextP (W0 : World) (L M U : Nat) (used : List Bs) (n : Nat) (w : World) (e : Ending) (w' : World) : Prop :=
  e = .returned (.string (bs (idN (nextN used n)))) ∧ NextS W0 L M U used (nextN used n) w' ∧ Only (fun g => g = L) w w'
def cellN (L : Nat) (w : World) : Nat := match w.cell? ⟨L, 0, none⟩ with | some (.int _ i) => i.toNat | _ => 0
theorem NextS.num {W0 : World} {L M U : Nat} {used : List Bs} {n : Nat} {w : World} (h : NextS W0 L M U used n w) : cellN L w = n := by
  unfold cellN
  rw [h.cell.cell 0 _ rfl]; simp
set_option maxRecDepth 100000 in
set_option maxHeartbeats 3200000 in
theorem inext_any (W0 : World) (L M U : Nat) (used : List Bs) (n : Nat) (w : World) (h : NextS W0 L M U used n w) (hb : n + used.length + 1 ≤ 1000000000000000) :
    Calls Tryz.prog 29 #[.pointer (some ⟨L, 0, none⟩), .pointer (some ⟨U, 0, none⟩)] w (NextP W0 L M U used n w) := by
  obtain ⟨hs1, hs2, hs3, hs4⟩ := nextN_spec used n
  have HH := Lib.hid h
  have HF : Hid (∀ j, n < j → j < nextN used n → used.contains (idN j) = true) := hs4
  have HE : Hid (used.contains (idN (nextN used n)) = false) := hs3
  have HP : Hid (∀ w', NextS W0 L M U used (nextN used n) w' → Only (fun g => g = L) w w' → NextP W0 L M U used n w (.returned (.string (bs (idN (nextN used n))))) w') := fun w' h1 h2 => ⟨rfl, h1, h2⟩
  have hc := h.cell.cell 0 _ rfl
  have HBN : Hid (nextN used n ≤ 1000000000000000) := by show _ ≤ _; omega
  have HS1 := Lib.hid hs1
  clear hs3 hs4 h hb hs2 hs1
  generalize NextP W0 L M U used n w = Q at *
  generalize nextN used n = N at *
  go_enter Tryz.func29, Tryz.ntmps29
  go_wp2_with fail
  go_loopw [3] (fun _ wr => ∃ m : Nat, Hid (n ≤ m ∧ m < N) ∧ Hid (NextS W0 L M U used m wr) ∧ Hid (Only (fun g => g = L) w wr)) (fun _ wr => N - cellN L wr)
  case atStart => exact ⟨n, ⟨Nat.le_refl _, HS1.out⟩, HH.out, Only.of_kept (Kept.refl w)⟩
  case round =>
    obtain ⟨m, HM, HS, HO⟩ := hrel
    have x0 : wr.cell? ⟨L, 0, none⟩ = some (.int .i64 m) := HS.out.cell.cell 0 _ rfl
    have f0 := HS.out.cell.free 0
    have z0 := HS.out.cell.lt
    have HMS := Lib.hid HS.out.num
    have hS2 := HS.out.set (m + 1)
    have HS2 := Lib.hid hS2
    have HO2 : Hid (Only (fun g => g = L) w (wr.setCell ⟨L, 0, none⟩ (.int .i64 ((m + 1 : Nat) : Int)))) := HO.out.trans (Only.setCell L 0 _)
    clear hS2 HS HO HH
    have hci : IntKind.i64.wrap ((m : Int) + 1) = ((m + 1 : Nat) : Int) := by
      have : IntKind.i64.wrap ((m : Int) + 1) = (m : Int) + 1 := by simp [IntKind.wrap, IntKind.bits, IntKind.signed]; have := HM.out; have := HBN.out; omega
      rw [this]; simp
    go_wp2_with fail
    have ecast : (m : Int) + 1 = ((m + 1 : Nat) : Int) := by simp
    rw [ecast]
    clear ecast
    generalize wr.setCell ⟨L, 0, none⟩ (.int .i64 ((m + 1 : Nat) : Int)) = w2 at *
    refine (itoa_any ((m + 1 : Nat) : Int) w2 (by omega) (by have := HM.out; have := HBN.out; omega) HS2.out.tabW).mono ?_
    rintro e w3 ⟨rfl, hk⟩
    have HS3 := Lib.hid (HS2.out.keptW hk)
    have HO3 := Lib.hid (HO2.out.trans (Only.of_kept hk))
    have hil : (Lib.itoa ((m + 1 : Nat) : Int)).length ≤ 21 := Lib.itoa_length_le _ (by omega) (by have := HM.out; have := HBN.out; omega)
    obtain ⟨hadd, hxl⟩ := add_bsG (P := Tryz.prog) [105, 120, 45] (Lib.itoa ((m + 1 : Nat) : Int)) (idN (m + 1)) 3 21 rfl (by simp) hil (by omega)
    have u0 : w3.cell? ⟨U, 0, none⟩ = some (.map (some M)) := HS3.out.ucell.cell 0 _ rfl
    have uz := HS3.out.ucell.lt
    have lk := lookK w3 M used (idN (m + 1)) HS3.out.map
    have HNUM := Lib.hid HS3.out.num
    clear hk HS2 HO2 x0 f0 z0 hci hil
    have HD : Hid (used.contains (idN (m + 1)) = false → m + 1 = N) := fun q => by
      rcases Nat.lt_or_ge (m + 1) N with q2 | q2
      · have := HF.out (m + 1) (by have := HM.out; omega) q2
        rw [this] at q; cases q
      · have := HM.out; omega
    have HD2 : Hid (used.contains (idN (m + 1)) = true → m + 1 < N) := fun q => by
      rcases Nat.lt_or_ge (m + 1) N with q2 | q2
      · exact q2
      · have q3 : m + 1 = N := by have := HM.out; omega
        rw [q3, HE.out] at q; cases q
    cases hct : used.contains (idN (m + 1)) with
    | true =>
      rw [hct] at lk HD2
      have HLT := Lib.hid (HD2.out rfl)
      clear HD HD2
      generalize idN (m + 1) = x at *
      generalize Lib.itoa _ = ix at *
      go_wp2_with fail
      go_roundw
      case rel => exact ⟨m + 1, ⟨by have := HM.out; omega, HLT.out⟩, HS3.out, HO3.out⟩
      case measure => rw [HNUM.out, HMS.out]; have := HM.out; have := HLT.out; omega
    | false =>
      rw [hct] at lk HD
      have HEQ := Lib.hid (HD.out rfl)
      clear HD HD2
      have HR := Lib.hid (HP.out w3 (by rw [← HEQ.out]; exact HS3.out) HO3.out)
      rw [← HEQ.out] at HR
      generalize idN (m + 1) = x at *
      generalize Lib.itoa _ = ix at *
      go_wp2_with fail
      (try go_ret)
      exact HR.out
end Go.Proofs.YtnbhpmleboildaaGreatDoor

/- append of a whole list to nothing: a copy. Conditions: lengths. -/
set_option linter.all false
namespace Go.Proofs.YtnbhpmleboildaaGreatDoor
open Go.RowKit

theorem wp_append_all {P : Program} (w : World) {o : Oper} {a : Act} {K : Act → World → Prop} {Q : Exit → Act → World → Prop} (s x : Operand) (t : TypeId)
    (ho : o.op = .call { callee := .builtin .append, args := #[s, x], argTypes := #[t, t] })
    (base : Nat) (e : TypeId) (i : TypeInfo) (z : Value) (size bytes : Nat) (ht : P.underlying t = some (.slice e)) (hi : P.info? e = some i) (hz : i.zero = some z)
    (hsize : i.size = size) (hby : i.bytes = bytes) (hzs : z.cells.size = size) (hsz : 0 < size)
    (v : Value) (n : Nat) (xs : List Value) (hs : a.eval s = v) (hown : w.ownsRow base e size v n xs)
    (a' : Option Addr) (m c : Nat) (news : List Value) (hx : a.eval x = .slice a' m c) (hl : news.length = m * size)
    (hsrc : 0 < m → ∃ g o2, a' = some ⟨g, o2, none⟩ ∧ ∀ j u, news[j]? = some u → w.cell? ⟨g, o2 + j, none⟩ = some u) (h1 : ∀ u ∈ news, u.oneCell' = true)
    (h63 : n + m ≤ maxLen) (hbytes : (n + m) * bytes ≤ 140737488355328) (hbase : base ≤ w.heap.size)
    (h : ∀ v' w', w'.ownsRow base e size v' (n + m) (xs ++ news) → w.grownBy w' v.ownBlock → (∀ g, v'.ownBlock = some g → v.ownBlock = some g ∨ g = w.heap.size) → K (a.put o.dst v') w') : Oper.wp P o a w K Q := by
  by_cases hq : 0 < m
  · obtain ⟨g, o2, rfl, hc⟩ := hsrc hq
    refine wp_append_lies w s x t ho base e i z size bytes ht hi hz hsize hby hzs hsz v n xs hs hown ⟨g, o2, none⟩ m c news hx hl (fun j u hu => by rw [addr_at]; exact hc j u hu) h1 hq h63 hbytes hbase w.heap.size rfl ?_
    intro g' cap w' h1 h2 h4 _
    exact h _ _ h1 h2 (fun g hg => by cases hg; exact h4)
  · obtain rfl : m = 0 := by omega
    obtain rfl : news = [] := List.length_eq_zero_iff.1 (by omega)
    have hown' := hown
    obtain ⟨a2, c2, rfl, hle, _, _⟩ := own_cap hown
    have hsrc : Src P i.size t (.slice a' 0 c) 0 [] w := by
      refine ⟨.inl ⟨_, ht⟩, fun w' => ?_, ?_, ?_, by simp, by simp⟩
      · simp [Builtin.lenOf]
      · cases a' <;> simp [Builtin.firstCells, loadCells, loadCellsFrom]
      · cases a' <;> simp [Builtin.firstCells, loadCells, loadCellsFrom]
    have hr := run_append_nothing (P := P) w t t o.type e i ht hi a2 n c2 hle (.slice a' 0 c) hsrc
    unfold Oper.wp execOp
    simp only [ho, resolve, invoke, builtin, Sem.run_bind, Sem.run_pure, Result.andThen_ok, List.map_toArray, List.map_cons, List.map_nil, hs, hx]
    rw [hr]
    refine h _ _ ?_ (World.grownBy.refl _ _) (fun g hg => .inl hg)
    rw [List.append_nil]; exact hown'
/-- A list of cells is copied. -/
theorem wpList_copy {P : Program} (w : World) {ops : Array Oper} {rest : List Oper} {o : Oper} {a : Act} {Q : Exit → Act → World → Prop} (hgd : o.guard = none) (x : Operand) (t : TypeId)
    (ho : o.op = .call { callee := .builtin .append, args := #[.const (.slice none 0 0), x], argTypes := #[t, t] })
    (e : TypeId) (i : TypeInfo) (z : Value) (size bytes : Nat) (ht : P.underlying t = some (.slice e)) (hi : P.info? e = some i) (hz : i.zero = some z)
    (hsize : i.size = size) (hby : i.bytes = bytes) (hzs : z.cells.size = size) (hsz : 0 < size) (hb : bytes ≤ 1000)
    (a' : Option Addr) (m c : Nat) (news : List Value) (hx : a.eval x = .slice a' m c) (hl : news.length = m * size)
    (hsrc : 0 < m → ∃ g o2, a' = some ⟨g, o2, none⟩ ∧ ∀ j u, news[j]? = some u → w.cell? ⟨g, o2 + j, none⟩ = some u) (h1 : ∀ u ∈ news, u.oneCell' = true)
    (hm : m ≤ 1100000) (h : ∀ v' w', w'.ownsRow w.heap.size e size v' m news → Kept w w' → wpList P ops Q rest (a.put o.dst v') w') : wpList P ops Q (o :: rest) a w := by
  have hmb : m * bytes ≤ 1100000 * 1000 := Nat.mul_le_mul hm hb
  refine wpList_plain hgd fun _ hK => wp_append_all w (.const (.slice none 0 0)) x t ho w.heap.size e i z size bytes ht hi hz hsize hby hzs hsz (.slice none 0 0) 0 [] rfl (World.ownsRow_nil _ _ _ _) a' m c news hx hl hsrc h1 (by unfold maxLen; omega) (by rw [Nat.zero_add]; omega) (Nat.le_refl _) (fun v' w' q1 q2 _ => hK _ _ (h v' w' ?_ ?_))
  · rw [Nat.zero_add, List.nil_append] at q1; exact q1
  · exact Below.grown (Below.refl _ _) q2 (Nat.le_refl _) (fun j hj => by cases hj)
def NewS (xs : List Bs) (w : World) (v' : Value) (w' : World) : Prop := Strs w' v' xs ∧ InB (fun g => w.heap.size ≤ g) v' xs.length ∧ Kept w w'
def NewF (xs : List Pr) (w : World) (v' : Value) (w' : World) : Prop := Prs w' v' xs ∧ InB (fun g => w.heap.size ≤ g) v' xs.length ∧ Kept w w'
def NewT (xs : List Cit) (w : World) (v' : Value) (w' : World) : Prop := Cits (fun g => w.heap.size ≤ g) w' v' xs ∧ Kept w w'
theorem wpList_copyS {w : World} {ops : Array Oper} {rest : List Oper} {o : Oper} {a : Act} {Q : Exit → Act → World → Prop} (hgd : o.guard = none) (x : Operand)
    (ho : o.op = .call { callee := .builtin .append, args := #[.const (.slice none 0 0), x], argTypes := #[26, 26] })
    (v : Value) (xs : List Bs) (hx : a.eval x = v) (hv : Strs w v xs) (hn : xs.length ≤ 1100000)
    (h : ∀ v' w', NewS xs w v' w' → wpList Tryz.prog ops Q rest (a.put o.dst v') w') : wpList Tryz.prog ops Q (o :: rest) a w := by
  obtain ⟨i0, hi, hz0, hz1, hz2⟩ := info_parts Tryz.infoStr
  obtain ⟨ad, c, rfl, hc, h3⟩ := hv
  refine wpList_copy w hgd x 26 ho 9 i0 (.string ⟨#[]⟩) 1 16 Tryz.underlying26 hi hz0 hz1 hz2 rfl (by decide) (by omega) ad xs.length c (strCells xs) hx (by rw [strCells_length, Nat.mul_one]) (fun q => ?_) (strCells_one xs) hn (fun v' w' q1 q2 => h v' w' ⟨Strs.own q1, fun _ g hg => (q1.lt g hg).1, q2⟩)
  obtain ⟨g, o, e, _, hcell⟩ := h3 q
  refine ⟨g, o, e, fun j u hu => ?_⟩
  obtain ⟨y, hy, rfl⟩ := strCells_back xs j u hu
  exact hcell j y hy
theorem wpList_copyF {w : World} {ops : Array Oper} {rest : List Oper} {o : Oper} {a : Act} {Q : Exit → Act → World → Prop} (hgd : o.guard = none) (x : Operand)
    (ho : o.op = .call { callee := .builtin .append, args := #[.const (.slice none 0 0), x], argTypes := #[22, 22] })
    (v : Value) (xs : List Pr) (hx : a.eval x = v) (hv : Prs w v xs) (hn : xs.length ≤ 1100000)
    (h : ∀ v' w', NewF xs w v' w' → wpList Tryz.prog ops Q rest (a.put o.dst v') w') : wpList Tryz.prog ops Q (o :: rest) a w := by
  obtain ⟨i0, hi, hz0, hz1, hz2⟩ := info_parts Tryz.infoPair
  obtain ⟨ad, c, rfl, hc, h3⟩ := hv
  refine wpList_copy w hgd x 22 ho 47 i0 _ 2 32 Tryz.underlying22 hi hz0 hz1 hz2 rfl (by decide) (by omega) ad xs.length c (pairC xs) hx (pairC_len xs) (fun q => ?_) (pairC_one xs) hn (fun v' w' q1 q2 => h v' w' ⟨Prs.own q1, fun _ g hg => (q1.lt g hg).1, q2⟩)
  obtain ⟨g, o, e, _, hcell⟩ := h3 q
  exact ⟨g, o, e, fun j u hu => pairC_read w g xs o hcell j u hu⟩
theorem wpList_copyT {S : Nat → Prop} {w : World} {ops : Array Oper} {rest : List Oper} {o : Oper} {a : Act} {Q : Exit → Act → World → Prop} (hgd : o.guard = none) (x : Operand)
    (ho : o.op = .call { callee := .builtin .append, args := #[.const (.slice none 0 0), x], argTypes := #[49, 49] })
    (v : Value) (xs : List Cit) (hx : a.eval x = v) (hv : Cits S w v xs) (hn : xs.length ≤ 1100000)
    (h : ∀ v' w', NewT xs w v' w' → wpList Tryz.prog ops Q rest (a.put o.dst v') w') : wpList Tryz.prog ops Q (o :: rest) a w := by
  obtain ⟨i0, hi, hz0, hz1, hz2⟩ := info_parts Tryz.infoCit
  obtain ⟨ad, c, rfl, hc⟩ := hv.form
  obtain ⟨css, e1, e2, e3, e4⟩ := RowR.css (by decide) hv
  refine wpList_copy w hgd x 49 ho 91 i0 _ 4 56 Tryz.underlying49 hi hz0 hz1 hz2 rfl (by decide) (by omega) ad xs.length c css.flatten hx (by rw [flat_len css e2, e1]) (fun q => ?_) ?_ hn (fun v' w' q1 q2 => h v' w' ⟨?_, q2⟩)
  · obtain ⟨g, o, e, _, _, hcell⟩ := e4 q
    exact ⟨g, o, e, hcell⟩
  · intro u hu
    obtain ⟨cs, hcs, hu⟩ := List.mem_flatten.1 hu
    obtain ⟨j, hj, rfl⟩ := List.getElem_of_mem hcs
    exact citW_one (e3 j _ _ (List.getElem?_eq_getElem hj) (List.getElem?_eq_getElem (by omega))) u hu
  · exact RowR.own css e2 e1 q1 e3 (fun g _ hb => hb)
end Go.Proofs.YtnbhpmleboildaaGreatDoor

/- Regions that draw their order, by an invariant over what has been done. No condition. -/
set_option linter.all false
namespace Go.Proofs.YtnbhpmleboildaaGreatDoor
open Go.RowKit

/-- The operation i has been done. -/
def On (L : Array Bool) (i : Nat) : Prop := L.getD i false = true
theorem on_same {L : Array Bool} {i : Nat} (h : i < L.size) : On (L.setIfInBounds i true) i := by
  unfold On; simp [Array.getD_eq_getD_getElem?, h]
theorem on_ne {L : Array Bool} {i j : Nat} (h : i ≠ j) : On (L.setIfInBounds i true) j ↔ On L j := by
  unfold On; rw [getD_set_ne false h]
theorem on_set {L : Array Bool} {i j : Nat} (h : On (L.setIfInBounds i true) j) : j = i ∨ On L j := by
  by_cases q : i = j
  · exact .inl q.symm
  · exact .inr ((on_ne q).1 h)
theorem on_mono {L : Array Bool} {i j : Nat} (h : On L j) : On (L.setIfInBounds i true) j := getD_set_true h
theorem not_on {L : Array Bool} {i : Nat} (h : L.getD i true = false) : ¬ On L i := by
  unfold On
  intro q
  have hi : i < L.size := by
    rcases Nat.lt_or_ge i L.size with x | x
    · exact x
    · rw [Array.getD_eq_getD_getElem?, Array.getElem?_eq_none x] at h; cases h
  rw [Array.getD_eq_getD_getElem?, Array.getElem?_eq_getElem hi] at h q
  simp only [Option.getD_some] at h q
  rw [h] at q; cases q
def offN (L : Array Bool) : Nat → Nat
  | 0 => 0
  | n + 1 => offN L n + (if L.getD n true = true then 0 else 1)
theorem offN_set (L : Array Bool) (i : Nat) (h : L.getD i true = false) : ∀ n, offN (L.setIfInBounds i true) n + (if i < n then 1 else 0) = offN L n
  | 0 => by simp [offN]
  | n + 1 => by
    have ih := offN_set L i h n
    rw [offN, offN]
    by_cases q : i = n
    · subst q
      rw [if_neg (Nat.lt_irrefl _)] at ih
      have hi : i < L.size := by
        rcases Nat.lt_or_ge i L.size with x | x
        · exact x
        · rw [Array.getD_eq_getD_getElem?, Array.getElem?_eq_none x] at h; cases h
      have e : (L.setIfInBounds i true).getD i true = true := by simp [Array.getD_eq_getD_getElem?, hi]
      rw [e, h]
      simp; omega
    · rw [getD_set_ne true q]
      generalize (if L.getD n true = true then 0 else 1) = z
      by_cases q2 : i < n
      · have q3 : i < n + 1 := by omega
        simp only [q2, q3, if_true] at ih ⊢; omega
      · have q3 : ¬ i < n + 1 := by omega
        simp only [q2, q3, if_false] at ih ⊢; omega
section
variable {P : Program} {ops : Array Oper} {Q : Exit → Act → World → Prop} {md : Region.Mode}
theorem wpAny_inv (I : Array Bool → Act → World → Prop) (hac : ∀ (i : Nat) (o : Oper), ops[i]? = some o → ∀ e ∈ o.after, Region.binds md e = true → e.on < i)
    (hend : ∀ L a w, I L a w → (∀ i, i < ops.size → L.getD i true = true) → Q .normal a w)
    (hstep : ∀ L a w i, I L a w → i < ops.size → L.getD i true = false → (∀ o, ops[i]? = some o → ∀ e ∈ o.after, Region.binds md e = true → On L e.on) → wpOp P ops Q i (I (L.setIfInBounds i true)) a w) :
    ∀ (fuel : Nat) L a w, offN L ops.size ≤ fuel → I L a w → wpAny P md ops Q fuel L a w := by
  have hall : ∀ L, L.size = L.size → Region.ready md ops L = [] → (∀ i, i < ops.size → L.getD i true = true) := by
    intro L _ hr i
    induction i using Nat.strongRecOn with
    | ind i ih =>
      intro hi
      cases hq : L.getD i true with
      | true => rfl
      | false =>
        exfalso
        have : i ∈ Region.ready md ops L := by
          rw [mem_ready]
          refine ⟨hq, ops[i], Array.getElem?_eq_getElem hi, fun e he hb => ?_⟩
          have h1 := hac i ops[i] (Array.getElem?_eq_getElem hi) e he hb
          have h2 := ih e.on h1 (by omega)
          have hlt : e.on < L.size := by
            rcases Nat.lt_or_ge i L.size with x | x
            · omega
            · rw [Array.getD_eq_getD_getElem?, Array.getElem?_eq_none x] at hq; cases hq
          rw [Array.getD_eq_getD_getElem?, Array.getElem?_eq_getElem hlt] at h2 ⊢
          exact h2
        rw [hr] at this; cases this
  intro fuel
  induction fuel with
  | zero =>
    intro L a w hf hI
    have hz : ∀ n, offN L n = 0 → ∀ i, i < n → L.getD i true = true := by
      intro n
      induction n with
      | zero => intro _ i hi; omega
      | succ n ih =>
        intro h i hi
        rw [offN] at h
        by_cases q : i = n
        · subst q
          cases hq : L.getD i true with
          | true => rfl
          | false => rw [hq] at h; simp at h
        · exact ih (by omega) i (by omega)
    have ha := hz ops.size (by omega)
    refine ⟨?_, hend L a w hI ha⟩
    cases hr : Region.ready md ops L with
    | nil => rfl
    | cons i r =>
      exfalso
      have hi : i ∈ Region.ready md ops L := by rw [hr]; exact List.mem_cons_self ..
      rw [mem_ready] at hi
      obtain ⟨h0, o, ho, _⟩ := hi
      have := ha i (Array.getElem?_eq_some_iff.1 ho).1
      rw [this] at h0; cases h0
  | succ fuel ih =>
    intro L a w hf hI
    refine ⟨fun hr => hend L a w hI (hall L rfl hr), fun i hi => ?_⟩
    rw [mem_ready] at hi
    obtain ⟨h0, o, ho, hed⟩ := hi
    have hlt := (Array.getElem?_eq_some_iff.1 ho).1
    have hs := offN_set L i h0 ops.size
    rw [if_pos hlt] at hs
    refine wpOp_mono (fun a' w' hI' => ih _ a' w' (by omega) hI') (hstep L a w i hI hlt h0 (fun o' ho' e he hb => ?_))
    rw [ho] at ho'
    cases ho'
    exact hed e he hb
theorem offN_start (n : Nat) : offN (Array.replicate n false) n ≤ n := by
  have : ∀ (L : Array Bool) m, offN L m ≤ m := by
    intro L m
    induction m with
    | zero => exact Nat.le_refl _
    | succ m ih => rw [offN]; split <;> omega
  exact this _ _
/-- A region that draws its order, by an invariant. -/
theorem wp_region_inv {id : Nat} {a : Act} {w : World} (I : Array Bool → Act → World → Prop) (hm : P.follows .mixedOrders = true) (hac : ∀ (i : Nat) (o : Oper), ops[i]? = some o → ∀ e ∈ o.after, Region.binds .any e = true → e.on < i)
    (h0 : I (Array.replicate ops.size false) a w.drew)
    (hend : ∀ L a w, I L a w → (∀ i, i < ops.size → L.getD i true = true) → Q .normal a w)
    (hstep : ∀ L a w i, I L a w → i < ops.size → L.getD i true = false → (∀ o, ops[i]? = some o → ∀ e ∈ o.after, Region.binds .any e = true → On L e.on) → wpOp P ops Q i (I (L.setIfInBounds i true)) a w) :
    (Code.region id ops true).wp P Q a w :=
  wp_region_any hm (wpAny_inv I hac hend hstep ops.size _ _ _ (offN_start _) h0)
theorem step_value {i : Nat} {o : Oper} {a : Act} {w w' : World} {v : Value} {K : Act → World → Prop} (ho : ops[i]? = some o) (hg : o.guard = none) (hr : (execOp a.eval o).run P w = .ok (.value v) w') (hk : K (a.put o.dst v) w') : wpOp P ops Q i K a w := by
  unfold wpOp
  simp only [ho]
  rw [if_pos (by simp [Region.wanted, hg])]
  left
  unfold Oper.wp
  rw [hr]; exact hk
theorem step_skip {i : Nat} {o : Oper} {a : Act} {w w' : World} {K : Act → World → Prop} (ho : ops[i]? = some o) (hg : o.guard = none) (hr : (execOp a.eval o).run P w = .ok .skip w') (hk : K (a.put o.dst undef) w') : wpOp P ops Q i K a w := by
  unfold wpOp
  simp only [ho]
  rw [if_pos (by simp [Region.wanted, hg])]
  left
  unfold Oper.wp
  rw [hr]; exact hk
theorem step_enter {i : Nat} {o : Oper} {a : Act} {w w' : World} {f : FuncId} {args : Array Value} {K : Act → World → Prop} (ho : ops[i]? = some o) (hg : o.guard = none) (hr : (execOp a.eval o).run P w = .ok (.enter f args) w')
    (hc : Calls P f args w' fun e w'' => ∃ v, e = .returned v ∧ K (a.put o.dst v) w'') : wpOp P ops Q i K a w := by
  unfold wpOp
  simp only [ho]
  rw [if_pos (by simp [Region.wanted, hg])]
  left
  unfold Oper.wp
  rw [hr, Oper.upon_enter]
  refine hc.mono ?_
  rintro e w'' ⟨v, rfl, h⟩
  exact h
end
/-- Every edge points to what stands ahead. -/
def acB (ops : Array Oper) : Bool := (List.range ops.size).all fun i => match ops[i]? with
  | some o => o.after.all fun e => !Region.binds .any e || decide (e.on < i)
  | none => true
theorem ac_of {ops : Array Oper} (h : acB ops = true) : ∀ (i : Nat) (o : Oper), ops[i]? = some o → ∀ e ∈ o.after, Region.binds .any e = true → e.on < i := by
  intro i o ho e he hb
  unfold acB at h
  rw [List.all_eq_true] at h
  have := h i (List.mem_range.2 (Array.getElem?_eq_some_iff.1 ho).1)
  rw [ho] at this
  simp only [Array.all_eq_true_iff_forall_mem] at this
  have := this e he
  rw [hb] at this
  simpa using this
/-- The slots: what has been done has its value, all else is as it was. -/
structure Slots (n : Nat) (D : Nat → Option Nat) (V : Nat → Value) (L : Array Bool) (a0 a : Act) : Prop where
  size : a.tmps.size = a0.tmps.size
  defers : a.defers = a0.defers
  val : ∀ i d, i < n → D i = some d → On L i → a.tmps[d]? = some (V i)
  rest : ∀ s, (∀ i, i < n → D i ≠ some s) → a.tmps[s]? = a0.tmps[s]?
theorem Slots.start (n : Nat) (D : Nat → Option Nat) (V : Nat → Value) (m : Nat) (a : Act) : Slots n D V (Array.replicate m false) a a :=
  ⟨rfl, rfl, (fun i d _ _ h => by
    unfold On at h
    rw [Array.getD_eq_getD_getElem?] at h
    by_cases q : i < m
    · rw [Array.getElem?_eq_getElem (by simpa using q)] at h; simp at h
    · rw [Array.getElem?_eq_none (by simpa using q)] at h; cases h), fun _ _ => rfl⟩
theorem Slots.eval {n : Nat} {D : Nat → Option Nat} {V : Nat → Value} {L : Array Bool} {a0 a : Act} (h : Slots n D V L a0 a) (i d : Nat) (hi : i < n) (hd : D i = some d) (ho : On L i) : a.eval (.tmp d) = V i := by
  show a.tmps.getD d undef = _
  rw [Array.getD_eq_getD_getElem?, h.val i d hi hd ho]; rfl
theorem Slots.ext {n : Nat} {D : Nat → Option Nat} {V : Nat → Value} {L : Array Bool} {a0 a : Act} (h : Slots n D V L a0 a) (s : Nat) (hs : ∀ i, i < n → D i ≠ some s) : a.eval (.tmp s) = a0.eval (.tmp s) := by
  show a.tmps.getD s undef = a0.tmps.getD s undef
  rw [Array.getD_eq_getD_getElem?, Array.getD_eq_getD_getElem?, h.rest s hs]
theorem Slots.put {n : Nat} {D : Nat → Option Nat} {V V' : Nat → Value} {L : Array Bool} {a0 a : Act} (h : Slots n D V L a0 a) (i : Nat) (hi : i < n) (hL : i < L.size) (hinj : ∀ j d, j < n → D i = some d → D j = some d → j = i) (hsz : ∀ d, D i = some d → d < a0.tmps.size)
    (v : Value) (hv : (D i).isSome = true → v = V' i) (hV : ∀ j, j < n → On L j → V j = V' j) : Slots n D V' (L.setIfInBounds i true) a0 (a.put (D i) v) := by
  cases hd : D i with
  | none =>
    refine ⟨h.size, h.defers, fun j d hj hjd ho => ?_, h.rest⟩
    rcases on_set ho with q | q
    · subst q; rw [hd] at hjd; cases hjd
    · rw [← hV j hj q]; exact h.val j d hj hjd q
  | some d =>
    have hv' : v = V' i := hv (by rw [hd]; rfl)
    refine ⟨?_, h.defers, fun j d' hj hjd ho => ?_, fun s hs => ?_⟩
    · show (a.tmps.setIfInBounds d v).size = _
      rw [Array.size_setIfInBounds]; exact h.size
    · show (a.tmps.setIfInBounds d v)[d']? = _
      by_cases q : d = d'
      · subst q
        obtain rfl := hinj j d hj hd hjd
        rw [Array.getElem?_setIfInBounds_self_of_lt (by rw [h.size]; exact hsz d hd), hv']
      · rw [Array.getElem?_setIfInBounds_ne q]
        rcases on_set ho with q2 | q2
        · subst q2; rw [hd] at hjd; cases hjd; exact absurd rfl q
        · rw [← hV j hj q2]; exact h.val j d' hj hjd q2
    · show (a.tmps.setIfInBounds d v)[s]? = _
      rw [Array.getElem?_setIfInBounds_ne (fun e => hs i hi (by rw [hd, e]))]
      exact h.rest s hs
theorem not_on_start (m i : Nat) : ¬ On (Array.replicate m false) i := by
  unfold On
  intro h
  rw [Array.getD_eq_getD_getElem?] at h
  by_cases q : i < m
  · rw [Array.getElem?_eq_getElem (by simpa using q)] at h; simp at h
  · rw [Array.getElem?_eq_none (by simpa using q)] at h; cases h
end Go.Proofs.YtnbhpmleboildaaGreatDoor
