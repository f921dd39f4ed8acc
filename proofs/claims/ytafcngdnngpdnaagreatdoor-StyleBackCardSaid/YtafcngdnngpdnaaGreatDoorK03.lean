/- strings.Builder's WriteString and WriteByte; lines.Join. Conditions: lengths. -/
import Derived.Test.YtafcngdnngpdnaaGreatDoorK02

namespace Go.Proofs
theorem Tryz.lays166 : Lays.n166 Tryz.prog Tryz.lays156_ren := {
  mixed := Tryz.lays156.mixed
  f166 := Tryz.lays156.f166
  f240 := Tryz.lays156.f240
  f276 := Tryz.lays156.f276
  t0 := Tryz.lays156.t0
  a0 := Tryz.lays156.a0
  z0 := Tryz.lays156.z0
  v0 := Tryz.lays156.v0
  t3 := Tryz.lays156.t3
  a3 := Tryz.lays156.a3
  z3 := Tryz.lays156.z3
  v3 := Tryz.lays156.v3
  t4 := Tryz.lays156.t4
  a4 := Tryz.lays156.a4
  z4 := Tryz.lays156.z4
  v4 := Tryz.lays156.v4
  t9 := Tryz.lays156.t9
  a9 := Tryz.lays156.a9
  z9 := Tryz.lays156.z9
  v9 := Tryz.lays156.v9
  t20 := Tryz.lays156.t20
  a20 := Tryz.lays156.a20
  z20 := Tryz.lays156.z20
  v20 := Tryz.lays156.v20
  t37 := Tryz.lays156.t37
  a37 := Tryz.lays156.a37
  z37 := Tryz.lays156.z37
  v37 := Tryz.lays156.v37
  t70 := Tryz.lays156.t70
  a70 := Tryz.lays156.a70
  z70 := Tryz.lays156.z70
  v70 := Tryz.lays156.v70
  t72 := Tryz.lays156.t72
  a72 := Tryz.lays156.a72
  z72 := Tryz.lays156.z72
  v72 := Tryz.lays156.v72
  t75 := Tryz.lays156.t75
  a75 := Tryz.lays156.a75
  z75 := Tryz.lays156.z75
  v75 := Tryz.lays156.v75
  t164 := Tryz.lays156.t164
  a164 := Tryz.lays156.a164
  z164 := Tryz.lays156.z164
  v164 := Tryz.lays156.v164
}
def Tryz.lays167_ren : Go.Shelf.Ren := ⟨fun | 167 => 42 | n => Tryz.lays156_ren.f n, Tryz.lays156_ren.t, Tryz.lays156_ren.g⟩
theorem Tryz.lays167 : Lays.n167 Tryz.prog Tryz.lays167_ren := {
  mixed := Tryz.lays156.mixed
  f167 := Tryz.func42.trans (congrArg some (by kernel_rfl))
  f240 := Tryz.lays156.f240.trans (congrArg some (by kernel_rfl))
  f276 := Tryz.lays156.f276.trans (congrArg some (by kernel_rfl))
  t0 := Tryz.lays156.t0
  a0 := Tryz.lays156.a0
  z0 := Tryz.lays156.z0
  v0 := Tryz.lays156.v0
  t4 := Tryz.lays156.t4
  a4 := Tryz.lays156.a4
  z4 := Tryz.lays156.z4
  v4 := Tryz.lays156.v4
  t5 := Tryz.underlying5
  a5 := Tryz.isAgg5
  z5 := Tryz.sizeOf5
  v5 := Tryz.zeroValue5
  t9 := Tryz.lays156.t9
  a9 := Tryz.lays156.a9
  z9 := Tryz.lays156.z9
  v9 := Tryz.lays156.v9
  t20 := Tryz.lays156.t20
  a20 := Tryz.lays156.a20
  z20 := Tryz.lays156.z20
  v20 := Tryz.lays156.v20
  t37 := Tryz.lays156.t37
  a37 := Tryz.lays156.a37
  z37 := Tryz.lays156.z37
  v37 := Tryz.lays156.v37
  t70 := Tryz.lays156.t70
  a70 := Tryz.lays156.a70
  z70 := Tryz.lays156.z70
  v70 := Tryz.lays156.v70
  t72 := Tryz.lays156.t72
  a72 := Tryz.lays156.a72
  z72 := Tryz.lays156.z72
  v72 := Tryz.lays156.v72
  t75 := Tryz.lays156.t75
  a75 := Tryz.lays156.a75
  z75 := Tryz.lays156.z75
  v75 := Tryz.lays156.v75
  t164 := Tryz.lays156.t164
  a164 := Tryz.lays156.a164
  z164 := Tryz.lays156.z164
  v164 := Tryz.lays156.v164
}
theorem Tryz.extra167 : Builder.Extra Tryz.prog Tryz.lays167_ren := {
  sizeBuilder := by kernel_rfl
  liesBuilder := by kernel_rfl
  t5 := Tryz.underlying5
  a5 := Tryz.isAgg5
  z5 := Tryz.sizeOf5
  v5 := Tryz.zeroValue5
  infoByte := by kernel_rfl
  cellsByte := by kernel_rfl
  sizeByte := by kernel_rfl
  neB5 := by decide }
end Go.Proofs
set_option linter.all false
namespace Go.Proofs.YtafcngdnngpdnaaGreatDoor
open Go.RowKit

theorem bld_string (B b : Nat) (cs : List Value) (l : Bs) (w : World) (h : Lib.IsBuilder 74 5 B b cs w) (hl : cs.length + l.length ≤ 140737488355328) (hB : B ≤ w.heap.size) :
    Calls Tryz.prog 34 #[.pointer (some ⟨b, 0, none⟩), .string (bs l)] w fun e w' => e = .returned (.tuple #[.int .i64 l.length, .nilIface]) ∧ (Lib.BuilderAt 74 5 B b (.pointer (some ⟨b, 0, none⟩)) (cs ++ Lib.byteCells l) w' ∧ Below B w w') :=
  Any.Builder_WriteString Tryz.lays166 Tryz.Builder_Extra_156 B b cs (bs l) w h (by simpa using hl) hB
theorem bld_byte (B b : Nat) (cs : List Value) (c : Int) (w : World) (h : Lib.IsBuilder 74 5 B b cs w) (hl : cs.length + 1 ≤ 140737488355328) (hB : B ≤ w.heap.size) :
    Calls Tryz.prog 42 #[.pointer (some ⟨b, 0, none⟩), .int .u8 c] w fun e w' => e = .returned .nilIface ∧ (Lib.BuilderAt 74 5 B b (.pointer (some ⟨b, 0, none⟩)) (cs ++ [.int .u8 c]) w' ∧ Below B w w') :=
  Any.Builder_WriteByte Tryz.lays167 Tryz.extra167 B b cs c w h hl hB
end Go.Proofs.YtafcngdnngpdnaaGreatDoor

/- lines.Split, Indent, Trim, Join. Conditions: lengths. -/
set_option linter.all false
namespace Go.Proofs.YtafcngdnngpdnaaGreatDoor
open Go.RowKit

def SliP (xs : List Bs) (w : World) (e : Ending) (w' : World) : Prop := ∃ v, e = .returned v ∧ Strs w' v xs ∧ Kept w w'
/-- The lines of a text. -/
def linesL (s : Bs) : List Bs := (runC 10 s).1 ++ (if (runC 10 s).2 = [] then [] else [(runC 10 s).2])
def LineSt (t : Bs) (k fr : Nat) (xs : List Bs) : Prop := k ≤ t.length ∧ fr ≤ k ∧ xs = (runC 10 (t.take k)).1 ∧ (t.take k).drop fr = (runC 10 (t.take k)).2
theorem LineSt.start (t : Bs) : LineSt t 0 0 [] := ⟨Nat.zero_le _, Nat.le_refl _, by simp [runC], by simp [runC]⟩
theorem LineSt.feed {t : Bs} {k fr : Nat} {xs : List Bs} (h : LineSt t k fr xs) (hk : k < t.length) (hb : t[k] = 10) : LineSt t (k + 1) (k + 1) (xs ++ [(t.drop fr).take (k - fr)]) ∧ fr ≤ k := by
  obtain ⟨h1, h2, h3, h4⟩ := h
  refine ⟨⟨by omega, Nat.le_refl _, ?_, ?_⟩, h2⟩
  · rw [take_next t k hk, runC_snoc, hb]
    rw [show (t.drop fr).take (k - fr) = (t.take k).drop fr from by rw [List.drop_take], h4, h3]
    simp [stepC]
  · rw [take_next t k hk, runC_snoc, hb]
    rw [List.drop_of_length_le (by simp; omega)]
    simp [stepC]
theorem LineSt.other {t : Bs} {k fr : Nat} {xs : List Bs} (h : LineSt t k fr xs) (hk : k < t.length) (hb : t[k] ≠ 10) : LineSt t (k + 1) fr xs ∧ fr ≤ k := by
  obtain ⟨h1, h2, h3, h4⟩ := h
  refine ⟨⟨by omega, by omega, ?_, ?_⟩, h2⟩
  · rw [take_next t k hk, runC_snoc]
    simp [stepC, hb, h3]
  · rw [take_next t k hk, runC_snoc, List.drop_append_of_le_length (by simp; omega), h4]
    simp [stepC, hb]
theorem LineSt.done {t : Bs} {fr : Nat} {xs : List Bs} (h : LineSt t t.length fr xs) : fr ≤ t.length ∧ linesL t = xs ++ (if fr < t.length then [t.drop fr] else []) := by
  obtain ⟨h1, h2, h3, h4⟩ := h
  rw [List.take_of_length_le (Nat.le_refl _)] at h3 h4
  refine ⟨h2, ?_⟩
  unfold linesL
  rw [h3, ← h4]
  congr 1
  by_cases q : fr < t.length
  · rw [if_pos q, if_neg]
    intro e
    have := congrArg List.length e
    simp at this; omega
  · rw [if_neg q, if_pos]
    exact List.drop_of_length_le (by omega)

set_option maxRecDepth 100000 in
set_option maxHeartbeats 3200000 in
theorem lsplit_any (t : Bs) (w : World) (ht : t.length ≤ 1100000) : Calls Tryz.prog 21 #[.string (bs t)] w (SliP (linesL t) w) := by
  obtain ⟨i0', hi', hz0, hz1, hz2⟩ := info_parts Tryz.infoStr
  go_enter Tryz.func21, Tryz.ntmps21
  go_wp2_with fail
  go_loopw [3, 4, 8] (fun v fv i wr => ∃ (k fr : Nat) (xs : List Bs), k ≤ t.length ∧ i = .int .i64 k ∧ fv = .int .i64 fr ∧ fr ≤ k ∧ xs.length ≤ k ∧ wr.ownsRow w.heap.size 9 1 v xs.length (strCells xs) ∧ Hid (LineSt t k fr xs) ∧ Kept w wr) (fun _ _ i _ => t.length - (intOf i).toNat)
  case atStart => exact ⟨0, 0, [], Nat.zero_le _, rfl, rfl, Nat.zero_le _, Nat.le_refl _, World.ownsRow_nil _ _ _ _, LineSt.start t, Kept.refl _⟩
  case round =>
    obtain ⟨k, fr, xs, hk, rfl, rfl, hfr, hxl, hown, HS, hkr⟩ := hrel
    have hsz : w.heap.size ≤ wr.heap.size := hkr.size
    have HKR := Lib.hid hkr
    have HOWN := Lib.hid hown
    clear hkr hown
    by_cases hlt : k < t.length
    · have i0 := run_ix (P := Tryz.prog) (t := 9) Tryz.underlying9 t k hlt k rfl
      have HC : Hid (at8 t k = 10 ↔ t[k] = 10) := by show _ ↔ _; rw [at8_get t k hlt]; exact u8_int _ 10 (by decide)
      by_cases hb : at8 t k = 10
      · obtain ⟨hst, hfk⟩ := HS.out.feed hlt (HC.out.1 hb)
        have sl := run_sub (P := Tryz.prog) (t := 9) Tryz.underlying9 t fr k hfk (by omega) fr k rfl rfl _ rfl
        have HST := Lib.hid hst
        have hown := HOWN.out
        have hb' : (at8 t k == 10) = true := by simpa using hb
        generalize (t.drop fr).take (k - fr) = y at *
        generalize at8 t k = b at *
        clear hst HC hb
        go_wp2_with (at_builtin; refine wpList_append_own _ rfl _ _ 45 rfl w.heap.size 9 i0' (.string ⟨#[]⟩) 1 16 Tryz.underlying45 hi' hz0 hz1 hz2 rfl (by decide) _ _ _ rfl (hown.alloc _) ⟨wr.heap.size, 0, none⟩ 1 1 [.string (bs y)] rfl rfl ?_ ?_ ?_ ?_ ?_ ?_)
        · exact new_cells _ #[.string (bs y)] _ _ (by simp)
        · intro u hu; simp at hu; subst hu; rfl
        · unfold maxLen; omega
        · omega
        · simp; omega
        intro v' w2 hown2 hgrow _
        have HB2 := Lib.hid ((HKR.out.trans (kept_alloc wr _)).trans' (grown_below (hown.alloc _) hgrow (by simp; omega)))
        rw [← strCells_snoc] at hown2
        have HO := Lib.hid hown2
        clear hown2 hgrow hown
        go_wp2_with fail
        go_roundw
        case rel => exact ⟨k + 1, k + 1, xs ++ [y], by omega, by go_num, by go_num, by omega, by simp; omega, by simpa using HO.out, HST.out, HB2.out⟩
        case measure => simp [intOf]; omega
      · obtain ⟨hst, hfk⟩ := HS.out.other hlt (fun q => hb (HC.out.2 q))
        have HST := Lib.hid hst
        have hb' : (at8 t k == 10) = false := by simpa using hb
        generalize at8 t k = b at *
        clear hst HC hb
        go_wp2_with fail
        go_roundw
        case rel => exact ⟨k + 1, fr, xs, by omega, by go_num, rfl, by omega, by omega, HOWN.out, HST.out, HKR.out⟩
        case measure => simp [intOf]; omega
    · obtain rfl : k = t.length := by omega
      obtain ⟨hfl, hfin⟩ := HS.out.done
      have HFIN := Lib.hid hfin
      clear hfin
      by_cases hq : fr < t.length
      · rw [if_pos hq] at HFIN
        have sl := run_from (P := Tryz.prog) (t := 9) Tryz.underlying9 t fr hfl fr rfl _ rfl
        have hown := HOWN.out
        generalize t.drop fr = y at *
        go_wp2_with (at_builtin; refine wpList_append_own _ rfl _ _ 45 rfl w.heap.size 9 i0' (.string ⟨#[]⟩) 1 16 Tryz.underlying45 hi' hz0 hz1 hz2 rfl (by decide) _ _ _ rfl (hown.alloc _) ⟨wr.heap.size, 0, none⟩ 1 1 [.string (bs y)] rfl rfl ?_ ?_ ?_ ?_ ?_ ?_)
        · exact new_cells _ #[.string (bs y)] _ _ (by simp)
        · intro u hu; simp at hu; subst hu; rfl
        · unfold maxLen; omega
        · omega
        · simp; omega
        intro v' w2 hown2 hgrow _
        have HB2 := Lib.hid ((HKR.out.trans (kept_alloc wr _)).trans' (grown_below (hown.alloc _) hgrow (by simp; omega)))
        rw [← strCells_snoc] at hown2
        have HO : Hid (Strs w2 v' (xs ++ [y])) := Strs.own (by simpa using hown2)
        clear hown2 hgrow hown
        go_wp2_with fail
        go_ret
        exact ⟨_, rfl, by rw [HFIN.out]; exact HO.out, HB2.out⟩
      · rw [if_neg hq, List.append_nil] at HFIN
        have HO := Lib.hid (Strs.own HOWN.out)
        go_wp2_with fail
        go_ret
        exact ⟨_, rfl, by rw [HFIN.out]; exact HO.out, HKR.out⟩

def indentL (l : Bs) : Nat := (l.takeWhile (· == 32)).length
def trimR (t : Bs) : Bs := (t.reverse.dropWhile (· == 32)).reverse
def trimL (l : Bs) : Bs := trimR (l.drop (indentL l))
theorem indent_le : ∀ l : Bs, indentL l ≤ l.length
  | [] => by simp [indentL]
  | b :: l => by
    have := indent_le l
    unfold indentL at this ⊢
    rw [List.takeWhile_cons]
    split <;> simp at this ⊢; omega
theorem indent_at (l : Bs) (k : Nat) (hk : k ≤ l.length) (h1 : ∀ j (hj : j < l.length), j < k → l[j] = 32) (h2 : ∀ h : k < l.length, l[k] ≠ 32) : indentL l = k := by
  induction l generalizing k with
  | nil => simp at hk; subst hk; rfl
  | cons b l ih =>
    unfold indentL
    cases k with
    | zero =>
      have := h2 (by simp)
      simp at this
      rw [List.takeWhile_cons, if_neg (by simpa using this)]; rfl
    | succ k =>
      have hb := h1 0 (by simp) (by omega)
      simp at hb
      rw [List.takeWhile_cons, if_pos (by simpa using hb), List.length_cons]
      congr 1
      exact ih k (by simpa using hk) (fun j hj hjk => by have := h1 (j + 1) (by simpa using hj) (by omega); simpa using this) (fun h => by have := h2 (by simpa using h); simpa using this)
theorem trimR_at (t : Bs) (n : Nat) (hn : n ≤ t.length) (h1 : ∀ b ∈ t.drop n, b = 32) (h2 : ∀ h : 0 < n, t[n - 1]'(by omega) ≠ 32) : trimR t = t.take n := by
  unfold trimR
  have e : t.reverse = (t.drop n).reverse ++ (t.take n).reverse := by rw [← List.reverse_append, List.take_append_drop]
  have e2 : ∀ (xs ys : Bs), (∀ b ∈ xs, b = 32) → (xs ++ ys).dropWhile (· == 32) = ys.dropWhile (· == 32) := by
    intro xs ys
    induction xs with
    | nil => intro _; rfl
    | cons b xs ih =>
      intro h
      have hb := h b (by simp)
      rw [List.cons_append, List.dropWhile_cons, if_pos (by simpa using hb)]
      exact ih (fun c hc => h c (by simp [hc]))
  rw [e, e2 _ _ (fun b hb => h1 b (by simpa using hb))]
  have e3 : (t.take n).reverse.dropWhile (· == 32) = (t.take n).reverse := by
    by_cases q : n = 0
    · subst q; simp
    · have hlast : t.take n = t.take (n - 1) ++ [t[n - 1]'(by omega)] := by
        have := List.take_succ_eq_append_getElem (l := t) (i := n - 1) (by omega)
        rw [show n - 1 + 1 = n from by omega] at this; exact this
      rw [hlast, List.reverse_append]
      simp only [List.reverse_cons, List.reverse_nil, List.nil_append, List.singleton_append]
      rw [List.dropWhile_cons, if_neg (by simpa using h2 (by omega))]
  rw [e3, List.reverse_reverse]

end Go.Proofs.YtafcngdnngpdnaaGreatDoor

/- lines.Join. Conditions: lengths. -/
set_option linter.all false
namespace Go.Proofs.YtafcngdnngpdnaaGreatDoor
open Go.RowKit

/-- Lines, each followed by a line feed. -/
def joinLn (xs : List Bs) : Bs := xs.flatMap fun x => x ++ [10]
theorem joinLn_snoc (xs : List Bs) (k : Nat) (x : Bs) (h : xs[k]? = some x) : joinLn (xs.take (k + 1)) = joinLn (xs.take k) ++ x ++ [10] := by
  obtain ⟨hk, rfl⟩ := List.getElem?_eq_some_iff.1 h
  unfold joinLn
  rw [List.take_succ_eq_append_getElem hk, List.flatMap_append]
  simp only [List.flatMap_cons, List.flatMap_nil, List.append_nil, List.append_assoc]
theorem joinLn_le (xs : List Bs) (k : Nat) : (joinLn (xs.take k)).length ≤ (joinLn xs).length := by
  unfold joinLn
  conv => rhs; rw [← List.take_append_drop k xs]
  rw [List.flatMap_append, List.length_append]; omega
theorem byteCells_app (a b : Bs) : Lib.byteCells (a ++ b) = Lib.byteCells a ++ Lib.byteCells b := by simp [Lib.byteCells]

set_option maxRecDepth 100000 in
set_option maxHeartbeats 1600000 in
theorem ljoin_any (v : Value) (xs : List Bs) (w : World) (hv : Strs w v xs) (hN : xs.length ≤ 1100000) (hl : (joinLn xs).length ≤ 1000000000000) :
    Calls Tryz.prog 17 #[v] w fun e w' => e = .returned (.string (bs (joinLn xs))) ∧ Kept w w' := by
  have HV := Lib.hid hv
  obtain ⟨a, c, rfl, hc, h3⟩ := hv
  clear h3
  go_enter Tryz.func17, Tryz.ntmps17
  go_wp2_with fail
  simp only [mk_bs]
  go_loopw [8] (fun i wr => ∃ k : Nat, k ≤ xs.length ∧ i = .int .i64 k ∧ Lib.IsBuilder 74 5 w.heap.size w.heap.size (Lib.byteCells (joinLn (xs.take k))) wr ∧ Kept w wr) (fun i _ => xs.length - (intOf i).toNat)
  case atStart =>
    refine ⟨0, Nat.zero_le _, rfl, .inl ⟨Nat.le_refl _, .slice none 0 0, ?_, World.ownsRow_nil _ _ _ _, by simp [Value.ownBlock]⟩, kept_alloc _ _⟩
    exact heap_alloc_new w _
  case round =>
    obtain ⟨k, hk, rfl, hB, hkr⟩ := hrel
    have HB := Lib.hid hB
    have HR := Lib.hid hkr
    clear hB
    by_cases hlt : k < xs.length
    · obtain ⟨x, hx⟩ : ∃ x, xs[k]? = some x := ⟨_, List.getElem?_eq_getElem hlt⟩
      obtain ⟨a', c', hv', hc', h3⟩ := HV.out.kept hkr
      obtain ⟨rfl, hdead, rfl⟩ := Value.slice.inj hv'
      clear hdead hc'
      obtain ⟨g, o, rfl, hg, hcc⟩ := h3 (by omega)
      have c0 := hcc k x hx
      have HN := Lib.hid (joinLn_snoc xs k x hx)
      have hle := joinLn_le xs k
      have hle2 := joinLn_le xs (k + 1)
      rw [HN.out] at hle2
      simp only [List.length_append, List.length_cons, List.length_nil] at hle2
      have hsz := hkr.size
      clear hkr hcc h3 hv' hx
      generalize joinLn (xs.take k) = jk at *
      go_wp2_with fail
      refine (bld_string w.heap.size w.heap.size _ x _ HB.out (by rw [Lib.byteCells_length]; omega) hsz).mono ?_
      rintro e w1 ⟨rfl, hb1, hbe1⟩
      have HB1 : Hid (Lib.IsBuilder 74 5 w.heap.size w.heap.size (Lib.byteCells jk ++ Lib.byteCells x) w1) := .inr hb1
      have HR1 := Lib.hid (HR.out.trans' hbe1)
      have hsz1 := HR1.out.size
      clear hb1 hbe1 c0 hg
      go_wp2_with fail
      refine (bld_byte w.heap.size w.heap.size _ 10 _ HB1.out (by rw [List.length_append, Lib.byteCells_length, Lib.byteCells_length]; omega) hsz1).mono ?_
      rintro e w2 ⟨rfl, hb2, hbe2⟩
      have HB2 : Hid (Lib.IsBuilder 74 5 w.heap.size w.heap.size (Lib.byteCells (jk ++ x ++ [10])) w2) := by
        refine .inr ?_
        rw [byteCells_app, byteCells_app]
        exact hb2
      have HR2 := Lib.hid (HR1.out.trans' hbe2)
      clear hb2 hbe2
      go_wp2_with fail
      go_roundw
      case rel => exact ⟨k + 1, by omega, by go_num, by rw [HN.out]; exact HB2.out, HR2.out⟩
      case measure => simp [intOf]; omega
    · have hsz := hkr.size
      rw [List.take_of_length_le (by omega)] at HB
      clear hkr
      obtain ⟨j, HJ⟩ : ∃ j, Hid (joinLn xs = j) := ⟨_, rfl⟩
      rw [HJ.out] at HB
      go_wp2_with fail
      refine (Tryz.Builder_String_any w.heap.size w.heap.size j _ HB.out hsz).mono ?_
      rintro e w1 ⟨rfl, hb1⟩
      have HR1 := Lib.hid (HR.out.trans' hb1)
      clear hb1
      go_wp2_with fail
      go_ret
      exact ⟨ret_bs HJ.out.symm, HR1.out⟩
end Go.Proofs.YtafcngdnngpdnaaGreatDoor
