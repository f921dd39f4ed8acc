/- Helpers for Parse of style: whole structs into and out of blocks, Atoi, CutPrefix, the slice behind nine lines, a pair appended. Conditions: lengths. -/
import Derived.Test.YtafcngdnngpdnaaGreatDoorK27
import Derived.Test.YtafcngdnngpdnaaGreatDoorK26
import Derived.Test.YtafcngdnngpdnaaGreatDoorK25
import Derived.Test.YtafcngdnngpdnaaGreatDoorK03
import Derived.Test.YtafcngdnngpdnaaGreatDoorK16
import Derived.Test.YtafcngdnngpdnaaGreatDoorK18
import Derived.Deep.MidRow
import Derived.Lib.Atoi

set_option linter.all false
namespace Go.Proofs.YtafcngdnngpdnaaGreatDoor
open Go.RowKit

theorem blk_cells {R : Nat} {ty : TypeId} : ∀ (vs : List Value) (o : Nat) (w : World) (cs : Array Value), Blk w R ty cs → ∃ cs' : Array Value, Blk (w.setCells R o vs) R ty cs' ∧ cs'.size = cs.size ∧ ∀ j, j < cs.size → cs'[j]? = if o ≤ j ∧ j < o + vs.length then vs[j - o]? else cs[j]?
  | [], o, w, cs, h => ⟨cs, h, rfl, fun j hj => by rw [if_neg (by simp only [List.length_nil]; omega)]⟩
  | v :: vs, o, w, cs, h => by
    obtain ⟨cs', h1, h2, h3⟩ := blk_cells vs (o + 1) _ _ (h.set o v)
    refine ⟨cs', h1, by rw [h2]; simp, fun j hj => ?_⟩
    have := h3 j (by simpa using hj)
    rw [this]
    by_cases q : j = o
    · subst q
      rw [if_neg (by omega), if_pos ⟨Nat.le_refl _, by simp only [List.length_cons]; omega⟩]
      simp [hj]
    · by_cases q2 : o ≤ j ∧ j < o + (v :: vs).length
      · rw [if_pos q2, if_pos (by simp only [List.length_cons] at q2; omega), show j - o = (j - (o + 1)) + 1 by omega, List.getElem?_cons_succ]
      · rw [if_neg q2, if_neg (by simp only [List.length_cons] at q2; omega), Array.getElem?_setIfInBounds_ne (fun e => q e.symm)]
theorem blk_whole {w : World} {R : Nat} {ty : TypeId} {old cells : Array Value} (h : Blk w R ty old) (hs : old.size = cells.size) : Blk (w.setCells R 0 cells.toList) R ty cells := by
  obtain ⟨cs', h1, h2, h3⟩ := blk_cells cells.toList 0 w old h
  have e : cs' = cells := by
    apply Array.ext_getElem?
    intro j
    by_cases hj : j < old.size
    · rw [h3 j hj, if_pos ⟨Nat.zero_le _, by rw [Nat.zero_add, Array.length_toList]; omega⟩, Nat.sub_zero, Array.getElem?_toList]
    · rw [Array.getElem?_eq_none (by omega), Array.getElem?_eq_none (by omega)]
  rwa [e] at h1
theorem only_cells {R : Nat} : ∀ (vs : List Value) (o : Nat) (w : World), Only (fun i => i = R) w (w.setCells R o vs)
  | [], _, w => Only.of_kept (Kept.refl w)
  | v :: vs, o, w => (Only.setCell R o v).trans ((only_cells vs (o + 1) _).mono (fun _ _ q => q))
/-- A whole struct goes into a block that is known whole. -/
theorem wpList_store_blk {P : Program} {ops : Array Oper} {rest : List Oper} {op : Oper} {a : Act} {w : World} {Q : Exit → Act → World → Prop} (hgd : op.guard = none) (ty : TypeId) (x y : Operand) (ho : op.op = .store ty x y)
    (R : Nat) (old cells : Array Value) (hx : a.eval x = .pointer (some ⟨R, 0, none⟩)) (hy : a.eval y = .agg cells) (hb : Blk w R ty old) (hs : old.size = cells.size)
    (hi : (P.info? ty).map (·.size) = some cells.size) (h1 : cells.all (·.oneCell') = true)
    (h : ∀ w', Blk w' R ty cells → Only (fun i => i = R) w w' → wpList P ops Q rest (a.put op.dst undef) w') : wpList P ops Q (op :: rest) a w := by
  refine wpList_store_mid hgd ty x y ho R 0 cells hx hy (fun j hj => ⟨?_, ?_⟩) hi h1 (h _ (blk_whole hb hs) (only_cells _ _ _))
  · rw [Nat.zero_add, hb.cell j (old[j]'(by omega)) (by rw [Array.getElem?_eq_getElem])]; rfl
  · rw [Nat.zero_add]; exact hb.free j
/-- A whole struct comes out of a block that is known whole. -/
theorem wpList_load_blk {P : Program} {ops : Array Oper} {rest : List Oper} {op : Oper} {a : Act} {w : World} {Q : Exit → Act → World → Prop} (hgd : op.guard = none) (ty : TypeId) (x : Operand) (ho : op.op = .load ty x)
    (R : Nat) (cells : Array Value) (hx : a.eval x = .pointer (some ⟨R, 0, none⟩)) (hb : Blk w R ty cells) (d : TypeDesc) (hu : P.underlying ty = some d) (hd : d.isRow = true)
    (hi : (P.info? ty).map (·.size) = some cells.size)
    (h : wpList P ops Q rest (a.put op.dst (.agg cells)) w) : wpList P ops Q (op :: rest) a w := by
  refine wpList_load_mid hgd ty x ho R 0 hx cells.toList d (fun j v hv => ?_) hu hd (by rw [hi, Array.length_toList]) (by rw [Array.toArray_toList]; exact h)
  rw [Nat.zero_add]
  exact hb.cell j v (by rw [← Array.getElem?_toList]; exact hv)
theorem Tryz.sizeSty : (Tryz.prog.info? 24).map (fun x => x.size) = some 10 := by kernel_rfl
theorem sty_one (vE : Value) (hE : vE.oneCell' = true) (y : StyT) : (styCells vE y).all (·.oneCell') = true := by
  unfold styCells
  simp only [List.all_toArray, List.all_cons, List.all_nil, hE]; rfl
theorem sty_cells {w : World} {R : Nat} {vE : Value} {y : StyT} (h : Blk w R 24 (styCells vE y)) :
    (w.cell? ⟨R, 0, none⟩ = some (.string (bs y.name)) ∧ w.cell? ⟨R, 1, none⟩ = some (.bool y.numeric) ∧ w.cell? ⟨R, 2, none⟩ = some (.string (bs y.sort)) ∧ w.cell? ⟨R, 3, none⟩ = some (.string (bs y.cite)) ∧ w.cell? ⟨R, 4, none⟩ = some (.string (bs y.bare)) ∧ w.cell? ⟨R, 5, none⟩ = some (.string (bs y.between)) ∧ w.cell? ⟨R, 6, none⟩ = some (.string (bs y.begin_)) ∧ w.cell? ⟨R, 7, none⟩ = some (.string (bs y.end_)) ∧ w.cell? ⟨R, 8, none⟩ = some (.int .i64 y.most) ∧ w.cell? ⟨R, 9, none⟩ = some vE) ∧ R < w.heap.size :=
  ⟨⟨h.cell 0 _ rfl, h.cell 1 _ rfl, h.cell 2 _ rfl, h.cell 3 _ rfl, h.cell 4 _ rfl, h.cell 5 _ rfl, h.cell 6 _ rfl, h.cell 7 _ rfl, h.cell 8 _ rfl, h.cell 9 _ rfl⟩, h.lt⟩
theorem atoi_dec {v : Bs} (h : decB v = true) : Lib.atoi v = some (dcN v : Int) := by
  obtain ⟨_, h1, h2, h4⟩ := decB_back h
  have hf : ∀ (l : Bs) (n : Nat), l.all dgtB = true → Lib.decFrom n l = some (l.foldl (fun n b => 10 * n + (b.toNat - 48)) n) := by
    intro l
    induction l with
    | nil => intro n _; rfl
    | cons b l ih =>
      intro n hl
      rw [List.all_cons, Bool.and_eq_true] at hl
      have hb := dig_cases hl.1
      have e : Lib.digitVal b = some (b.toNat - 48) := by unfold Lib.digitVal; rw [if_pos hb]
      rw [Lib.decFrom, e]
      simp only
      rw [ih _ hl.2, List.foldl_cons, Nat.mul_comm n 10]
  cases v with
  | nil => simp at h1
  | cons b r =>
    have hb := dig_cases (b := b) (by rw [List.all_cons, Bool.and_eq_true] at h4; exact h4.1)
    have b1 : (b == 45) = false := by
      rw [beq_eq_false_iff_ne]; rintro rfl
      have : (45 : UInt8).toNat = 45 := rfl
      omega
    have b2 : (b == 43) = false := by
      rw [beq_eq_false_iff_ne]; rintro rfl
      have : (43 : UInt8).toNat = 43 := rfl
      omega
    unfold Lib.atoi
    simp only [b1, b2, Bool.false_eq_true, if_false]
    unfold Lib.decNat
    rw [hf _ 0 h4]
    rfl
theorem bytesW_kept (w : World) (e : TypeId) (s : ByteArray) : Kept w (Lib.bytesWorld w e s) :=
  ⟨rfl, rfl, rfl, by rw [Lib.bytesWorld_size]; omega, fun k hk => Lib.bytesWorld_at_old w e s k hk⟩
theorem atoi_any (v : Bs) (w : World) (h : decB v = true) : Calls Tryz.prog 24 #[.string (bs v)] w fun e w' => e = .returned (.tuple #[.int .i64 (dcN v), .nilIface]) ∧ Kept w w' := by
  obtain ⟨_, h1, h2, _⟩ := decB_back h
  refine (Tryz.strconv_Atoi (bs v) (dcN v) (by simp; omega) (atoi_dec h) w).mono ?_
  rintro e w' ⟨rfl, t, rfl⟩
  exact ⟨rfl, bytesW_kept _ _ _⟩
theorem cutp_none {h l : Bs} (w : World) (q : cutP h l = none) : Calls Tryz.prog 22 #[.string (bs l), .string (bs h)] w fun e w' => e = .returned (.tuple #[.string (bs l), .bool false]) ∧ w = w' := by
  refine (Tryz.strings_CutPrefix (bs l) (bs h) w).mono ?_
  rintro e w' ⟨rfl, rfl⟩
  refine ⟨?_, rfl⟩
  simp only [bs_data, mk_bs]
  have e : Lib.hasPrefix l h = false := by
    unfold cutP at q
    split at q
    · cases q
    · rename_i hp
      unfold Lib.hasPrefix; rwa [Bool.not_eq_true] at hp
  have e2 : Lib.trimPrefix l h = l := by unfold Lib.trimPrefix; rw [e]; rfl
  rw [e, e2]
theorem cutp_some {h l v : Bs} (w : World) (q : cutP h l = some v) : Calls Tryz.prog 22 #[.string (bs l), .string (bs h)] w fun e w' => e = .returned (.tuple #[.string (bs v), .bool true]) ∧ w = w' := by
  refine (Tryz.strings_CutPrefix (bs l) (bs h) w).mono ?_
  rintro e w' ⟨rfl, rfl⟩
  refine ⟨?_, rfl⟩
  simp only [bs_data, mk_bs]
  have e : Lib.hasPrefix l h = true := by
    unfold cutP at q
    split at q
    · rename_i hp; exact hp
    · cases q
  have e2 : Lib.trimPrefix l h = v := by unfold Lib.trimPrefix; rw [e, (cutP_len q).1]; rfl
  rw [e, e2]
theorem slice9 {w : World} {v : Value} {ls : List Bs} (h : Strs w v ls) (h9 : 9 ≤ ls.length) : ∃ a c, (∀ w', (Instr.slice 45 v (some (.int .i64 9)) none none).run Tryz.prog w' = .ok (.slice a (ls.drop 9).length c) w') ∧ Strs w (.slice a (ls.drop 9).length c) (ls.drop 9) := by
  obtain ⟨a, c, rfl, hc, h3⟩ := h
  refine ⟨if c = 9 then a else a.map (·.add (9 * 1)), c - 9, fun w' => ?_, ?_⟩
  · rw [run_slice_l w' 45 a ls.length c (by kernel_rfl) .i64 9 (by omega) (by omega)]
    have hs : (sizeOf (Tryz.prog.elem 45)).run Tryz.prog w' = .ok 1 w' := by kernel_rfl
    rw [hs]
    simp [Result.andThen, sliced]
  · refine ⟨_, _, rfl, by rw [List.length_drop]; omega, fun q => ?_⟩
    rw [List.length_drop] at q
    obtain ⟨g, o, rfl, hg, hcell⟩ := h3 (by omega)
    refine ⟨g, o + 9, ?_, hg, fun j x hx => ?_⟩
    · rw [if_neg (by omega)]
      simp [addr_at]
    · have := hcell (9 + j) x (by rw [List.getElem?_drop] at hx; exact hx)
      rwa [Nat.add_assoc]
set_option maxRecDepth 100000 in
/-- A pair that lies in a block of its own, appended in a plain region. -/
theorem wpList_append_pr (w : World) {ops : Array Oper} {rest : List Oper} {o : Oper} {a : Act} {Q : Exit → Act → World → Prop} (hgd : o.guard = none) (s x : Operand)
    (ho : o.op = .call { callee := .builtin .append, args := #[s, x], argTypes := #[22, 22] })
    (base : Nat) (v : Value) (ps : List Pr) (hs : a.eval s = v) (hown : w.ownsRow base 35 2 v ps.length (pairC ps)) (q : Pr) (g : Nat) (hx : a.eval x = .slice (some ⟨g, 0, none⟩) 1 1)
    (hb : Blk w g 35 #[.string (bs q.1), .string (bs q.2)]) (hl : ps.length ≤ 1000000) (hbase : base ≤ w.heap.size)
    (h : ∀ v' w', w'.ownsRow base 35 2 v' (ps ++ [q]).length (pairC (ps ++ [q])) → w.grownBy w' v.ownBlock → wpList Tryz.prog ops Q rest (a.put o.dst v') w') :
    wpList Tryz.prog ops Q (o :: rest) a w := by
  obtain ⟨i0, hi, hz0, hz1, hz2⟩ := info_parts Tryz.infoPair
  refine wpList_append_lies w hgd s x 22 ho base 35 i0 (.agg #[.string ⟨#[]⟩, .string ⟨#[]⟩]) 2 32 Tryz.underlying22 hi hz0 hz1 hz2 rfl (by decide) v ps.length (pairC ps) hs hown ⟨g, 0, none⟩ 1 1 [.string (bs q.1), .string (bs q.2)] hx rfl (fun j u hu => ?_) (fun u hu => ?_) (by decide) (by unfold maxLen; omega) (by omega) hbase w.heap.size rfl (fun g' cap w' h1 h2 _ _ => h _ w' ?_ h2)
  · rw [addr_at, Nat.zero_add]
    match j with
    | 0 => cases hu; exact hb.cell 0 _ rfl
    | 1 => cases hu; exact hb.cell 1 _ rfl
    | j + 2 => simp at hu
  · simp at hu
    rcases hu with rfl | rfl <;> rfl
  · rw [pairC_snoc, List.length_append]; exact h1
/-- The nine values, as far as they are read. -/
def valsK (ls : List Bs) (k : Nat) : List Bs := (List.range 9).map fun j => if j < k then hdV ls j else []
theorem valsK_set (ls : List Bs) (k : Nat) (hk : k < 9) : (strCells (valsK ls k)).toArray.setIfInBounds k (.string (bs (hdV ls k))) = (strCells (valsK ls (k + 1))).toArray := by
  apply Array.ext_getElem?
  intro j
  have hl : ∀ k, (valsK ls k).length = 9 := fun k => by simp [valsK]
  by_cases hj : j < 9
  · by_cases q : k = j
    · subst q
      rw [Array.getElem?_setIfInBounds_self_of_lt (by simp [strCells_length, hl]; omega)]
      rw [List.getElem?_toArray]
      have : (valsK ls (k + 1))[k]? = some (hdV ls k) := by
        unfold valsK
        rw [List.getElem?_map, List.getElem?_range hj]
        simp
      rw [strCells_at _ _ _ this]
    · rw [Array.getElem?_setIfInBounds_ne q, List.getElem?_toArray, List.getElem?_toArray]
      unfold strCells valsK
      rw [List.getElem?_map, List.getElem?_map, List.getElem?_map, List.getElem?_map, List.getElem?_range hj]
      simp only [Option.map_some]
      by_cases q2 : j < k
      · rw [if_pos q2, if_pos (by omega)]
      · rw [if_neg q2, if_neg (by omega)]
  · rw [Array.getElem?_eq_none (by simp [strCells_length, hl]; omega), Array.getElem?_eq_none (by simp [strCells_length, hl]; omega)]
theorem valsK_at (ls : List Bs) (k j : Nat) (hj : j < 9) : (strCells (valsK ls k)).toArray[j]? = some (.string (bs (if j < k then hdV ls j else []))) := by
  rw [List.getElem?_toArray]
  refine strCells_at _ _ _ ?_
  unfold valsK
  rw [List.getElem?_map, List.getElem?_range hj]; rfl
end Go.Proofs.YtafcngdnngpdnaaGreatDoor

/- Fill of style. Conditions: lengths. -/
set_option linter.all false
namespace Go.Proofs.YtafcngdnngpdnaaGreatDoor
open Go.RowKit

theorem bld_kept {T e : TypeId} {B b : Nat} {cs : List Value} {w w' : World} (h : Lib.IsBuilder T e B b cs w) (k : Kept w w') : Lib.IsBuilder T e B b cs w' := by
  have hp : ∀ p, Lib.BuilderAt T e B b p cs w → Lib.BuilderAt T e B b p cs w' := fun p h => by
    obtain ⟨h1, v, h2, h3, h4⟩ := h
    have hlt : b < w.heap.size := by
      rcases Nat.lt_or_ge b w.heap.size with q | q
      · exact q
      · rw [Array.getElem?_eq_none q] at h2; cases h2
    exact ⟨h1, v, by rw [k.block b hlt]; exact h2, own_kept h3 k, h4⟩
  exact h.imp (hp _) (hp _)
theorem itoa_len (n : Int) (h0 : -9223372036854775808 ≤ n) (h1 : n ≤ 9223372036854775807) : (Lib.itoa n).length ≤ 21 := by
  have hd : ∀ (k u : Nat), u < 10 ^ k → 1 ≤ k → (Lib.decDigits u).length ≤ k := by
    intro k
    induction k with
    | zero => intro u _ h; omega
    | succ k ih =>
      intro u hu _
      by_cases q : u < 10
      · rw [Lib.decDigits_one q]; simp
      · rw [decDigits_ten _ q, List.length_append, List.length_singleton]
        have hk : 1 ≤ k := by
          rcases Nat.eq_zero_or_pos k with r | r
          · subst r; simp at hu; omega
          · exact r
        have := ih (u / 10) (by rw [Nat.pow_succ] at hu; omega) hk
        omega
  have h20 : (10 : Nat) ^ 20 = 100000000000000000000 := by decide
  unfold Lib.itoa
  split
  · have := hd 20 n.natAbs (by omega) (by omega)
    simp only [List.length_cons]; omega
  · have := hd 20 n.toNat (by omega) (by omega)
    omega
theorem plistL_le (ps : List P4) (l : Bs) (most : Int) (full : Bool) (hN : ps.length ≤ 900) (hq : ∀ q ∈ ps, size4 q ≤ 10000) : (plistL ps l most full).length ≤ 20000000 := by
  have hn := names_le full ps hq
  have ha := andOf_len (langOf l)
  have ho := othersOf_len (langOf l)
  have hj : ∀ xs : List Bs, xs.length ≤ 900 → (∀ x ∈ xs, x.length ≤ 10004) → (Lib.join xs sepL).length ≤ 9005400 := fun xs h1 h2 => by
    have := join_sep_le 10004 xs h2
    have h3 : xs.length * (10004 + 2) ≤ 900 * (10004 + 2) := Nat.mul_le_mul_right _ h1
    omega
  unfold plistL
  split
  · have h1 := hj ((ps.take most.toNat).map (nameOf full)) (by rw [List.length_map, List.length_take]; omega) (fun x hx => by
      obtain ⟨q, hq', rfl⟩ := List.mem_map.1 hx
      exact hn _ (List.mem_map.2 ⟨q, List.mem_of_mem_take hq', rfl⟩))
    simp only [List.length_append, List.length_cons, List.length_nil]
    omega
  · unfold listL
    split
    · have := hj (ps.map (nameOf full)) (by rw [List.length_map]; omega) hn
      omega
    · have h1 := hj (ps.map (nameOf full)).dropLast (by rw [List.length_dropLast, List.length_map]; omega) (fun x hx => hn x ((List.dropLast_sublist _).subset hx))
      have h2 : ((ps.map (nameOf full)).getLastD []).length ≤ 10004 := by
        cases hx : (ps.map (nameOf full)).getLast? with
        | none => rw [List.getLastD_eq_getLast?, hx]; simp
        | some x =>
          rw [List.getLastD_eq_getLast?, hx]
          exact hn x (List.mem_of_getLast? hx)
      simp only [List.length_append, List.length_cons, List.length_nil]
      omega
/-- Bounds of what a template is filled with, its texts too. -/
def FitV (c : FilT) : Prop := FitF c ∧ c.key.length ≤ 1000000 ∧ c.type.length ≤ 1000000 ∧ c.suffix.length ≤ 1000000 ∧ ∀ p ∈ c.fields, p.2.length ≤ 1000000
theorem valS_look (c : FilT) (k : Bs) : valS c k = (lookB (specL c) k).getD ((fieldL c.fields k).getD []) := by
  unfold valS lookB
  cases (specL c).find? fun e => e.1 == k <;> rfl
theorem field_len {ps : List Pr} {n : Nat} (h : ∀ p ∈ ps, p.2.length ≤ n) (k : Bs) : ((fieldL ps k).getD []).length ≤ n := by
  unfold fieldL
  cases hx : ps.find? fun q => q.1 == k with
  | none => simp
  | some p => simpa using h p (List.mem_of_find?_eq_some hx)
theorem val_len (c : FilT) (h : FitV c) (k : Bs) : (valS c k).length ≤ 20000000 := by
  obtain ⟨⟨f1, f2, f3, f4, f5, f6, f7, f8⟩, g1, g2, g3, g4⟩ := h
  rw [valS_look]
  cases hx : lookB (specL c) k with
  | none =>
    have := field_len g4 k
    simp only [Option.getD_none]; omega
  | some x =>
    simp only [Option.getD_some]
    unfold lookB at hx
    rw [Option.map_eq_some_iff] at hx
    obtain ⟨e, he, rfl⟩ := hx
    have h2 := List.mem_of_find?_eq_some he
    unfold specL at h2
    simp only [List.mem_cons, List.mem_nil_iff, or_false] at h2
    have hy := yearL_range ((fieldL c.fields [121, 101, 97, 114]).getD [])
    rcases h2 with rfl | rfl | rfl | rfl | rfl | rfl | rfl | rfl | rfl
    · exact plistL_le _ _ _ _ f1 f3
    · exact plistL_le _ _ _ _ f2 f4
    · exact plistL_le _ _ _ _ f1 f3
    · exact plistL_le _ _ _ _ f2 f4
    · simp only
      unfold yearS
      split
      · simp
      · have := itoa_len (yearN c) (by unfold yearN; omega) (by unfold yearN; omega)
        omega
    · simp only; omega
    · simp only
      unfold numS
      split
      · simp
      · have := itoa_len c.number (by omega) (by omega)
        omega
    · simp only; omega
    · simp only; omega
theorem Tryz.zeroStr (w : World) : (zeroValue 9).run Tryz.prog w = .ok (.string (bs [])) w := by kernel_rfl
theorem Tryz.sizeSrc : (Tryz.prog.info? 40).map (fun x => x.size) = some 5 := by kernel_rfl
set_option maxRecDepth 100000 in
set_option maxHeartbeats 3200000 in
theorem clo_val (c : FilT) (vA vE vF : Value) (k : Bs) (X S m : Nat) (es : List (Bs × Value)) (w : World) (hX : w.cell? ⟨X, 0, none⟩ = some (.map (some m))) (hm : MapT w m es) (hes : ∀ k, getT es k = (lookB (specL c) k).map (fun x => .string (bs x)))
    (hS : Blk w S 40 #[.string (bs c.key), .string (bs c.type), vA, vE, vF]) (hF : Prs w vF c.fields) (hn : c.fields.length ≤ 1100000) :
    Calls Tryz.prog 32 #[.string (bs k), .pointer (some ⟨X, 0, none⟩), .pointer (some ⟨S, 0, none⟩)] w fun e w' => e = .returned (.string (bs (valS c k))) ∧ Kept w w' := by
  have HV := Lib.hid (valS_look c k)
  have lk := lookT_ok (P := Tryz.prog) Tryz.underlying64 Tryz.underlying9 w m es k (.string (bs [])) (Tryz.zeroStr _) hm
  rw [hes k] at lk
  have hXz := World.block_lt_of_cell? w (a := ⟨X, 0, none⟩) hX
  simp only at hXz
  have t0 : w.cell? ⟨S, 0, none⟩ = some (.string (bs c.key)) := hS.cell 0 _ rfl
  have t1 : w.cell? ⟨S, 1, none⟩ = some (.string (bs c.type)) := hS.cell 1 _ rfl
  have t2 : w.cell? ⟨S, 2, none⟩ = some vA := hS.cell 2 _ rfl
  have t3 : w.cell? ⟨S, 3, none⟩ = some vE := hS.cell 3 _ rfl
  have t4 : w.cell? ⟨S, 4, none⟩ = some vF := hS.cell 4 _ rfl
  have z0 := hS.lt
  have HFD := Lib.hid (field_any c.key c.type vA vE vF c.fields k w hF hn)
  unfold FieldPost at HFD
  clear hm hes hS hF
  cases hx : lookB (specL c) k with
  | some x =>
    rw [hx] at HV lk
    simp only [Option.map_some, Option.getD_some, Option.isSome_some] at HV lk
    rw [HV.out]
    clear hx
    go_enter Tryz.func32, Tryz.ntmps32
    go_wp2_with fail
    go_ret
    exact ⟨rfl, Kept.refl _⟩
  | none =>
    rw [hx] at HV lk
    simp only [Option.map_none, Option.getD_none, Option.isSome_none] at HV lk
    rw [HV.out]
    clear hx
    generalize (fieldL c.fields k).getD [] = r at *
    generalize (fieldL c.fields k).isSome = b at *
    go_enter Tryz.func32, Tryz.ntmps32
    go_wp2_with fail
    refine HFD.out.mono ?_
    rintro e w1 ⟨rfl, hk1⟩
    have HK := Lib.hid hk1
    clear hk1
    go_wp2_with fail
    go_ret
    exact ⟨rfl, HK.out⟩
def fillS (c : FilT) (t : Bs) : Bs := fillB (splL t) (valS c)
theorem dropG_next (ps : List Pc) (val : Bs → Bs) (k : Nat) (hk : k < ps.length) : dropG (ps.take (k + 1)) val = dropG (ps.take k) val ++ (if (ps[k].fld && (!(ps[k].grp == 0) && (val ps[k].txt == []))) = true then [(ps[k].grp : Int)] else []) := by
  rw [List.take_succ_eq_append_getElem hk]
  unfold dropG
  rw [List.filter_append, List.map_append]
  by_cases h : (ps[k].fld && (!(ps[k].grp == 0) && (val ps[k].txt == []))) = true
  · rw [if_pos h, List.filter_cons, if_pos h]; rfl
  · rw [if_neg h, List.filter_cons, if_neg h]; rfl
theorem fill_next (ps : List Pc) (f : Pc → Bs) (k : Nat) (hk : k < ps.length) : (ps.take (k + 1)).flatMap f = (ps.take k).flatMap f ++ f ps[k] := by
  rw [List.take_succ_eq_append_getElem hk, List.flatMap_append]
  simp
theorem fill_len (ps : List Pc) (f : Pc → Bs) (n : Nat) (h : ∀ p ∈ ps, (f p).length ≤ n) : (ps.flatMap f).length ≤ ps.length * n := by
  induction ps with
  | nil => simp
  | cons p ps ih =>
    rw [List.flatMap_cons, List.length_append, List.length_cons, Nat.succ_mul]
    have h1 := h p (List.mem_cons_self ..)
    have h2 := ih (fun q hq => h q (List.mem_cons_of_mem _ hq))
    omega
set_option maxRecDepth 100000 in
set_option maxHeartbeats 12800000 in
theorem sfill_any (c : FilT) (t : Bs) (vA vE vF vY : Value) (y : StyT) (w : World) (hy : y.most = c.most) (hYo : vY.oneCell' = true) (hg : Gnd w) (hT : Lib.TabIs Tryz.prog w "internal/strconv.uint64pow10" .u64 Lib.pow10Tab) (ht : t.length ≤ 100000) (hs : FitV c)
    (hA : Perss w vA c.author) (hE : Perss w vE c.editor) (hF : Prs w vF c.fields) :
    Calls Tryz.prog 13 #[.string (bs t), srcV c.key c.type vA vE vF, styV vY y, .string (bs c.lang), .string (bs c.suffix), .int .i64 c.number] w fun e w' => e = .returned (.tuple #[.string (bs (fillS c t)), .int .i64 (splE t)]) ∧ Kept w w' := by
  have HG := Lib.hid hg
  have HSP := Lib.hid (fun w h => ssplit_any t w h ht)
  unfold SplitP at HSP
  have HT := Lib.hid hT
  have HA := Lib.hid hA
  have HE := Lib.hid hE
  have HF := Lib.hid hF
  have HSV := Lib.hid (fun w h1 h2 h3 h4 => svals_any c vA vE vF vY y w hy h1 h2 h3 h4 hs.1)
  unfold ValsP at HSV
  have HVL := Lib.hid (fun k => val_len c hs k)
  have HCLO := Lib.hid (fun k X S m es w h1 h2 h3 h4 h5 => clo_val c vA vE vF k X S m es w h1 h2 h3 h4 h5 hs.1.2.2.2.2.2.1)
  have hln := splL_len t
  have HPL : Hid (∀ p ∈ splL t, p.txt.length ≤ 100000) := fun p hp => by have := (splL_pcs p hp).2.1; omega
  have HFS : Hid (fillS c t = fillB (splL t) (valS c)) := rfl
  have HNIL : Hid (splE t ≠ 0 → fillS c t = []) := fun h => by
    have : splL t = [] := by unfold splL; rw [if_neg h]
    unfold fillS; rw [this]; rfl
  clear hg hT hA hE hF hs hy
  generalize fillS c t = T at *
  generalize splE t = E at *
  generalize splL t = ps at *
  generalize specL c = sp at *
  generalize valS c = val at *
  unfold styV styCells srcV at HSV ⊢
  have HS0 := Lib.hid (Blk.new w 40 #[.string (bs c.key), .string (bs c.type), vA, vE, vF])
  have HK0 := Lib.hid (kept_alloc w (.cells #[.string (bs c.key), .string (bs c.type), vA, vE, vF] 40))
  have HS1 := Lib.hid (Blk.new (w.alloc (.cells #[.string (bs c.key), .string (bs c.type), vA, vE, vF] 40)) 24 (styCells vY y))
  have HK1 := Lib.hid (kept_alloc (w.alloc (.cells #[.string (bs c.key), .string (bs c.type), vA, vE, vF] 40)) (.cells (styCells vY y) 24))
  unfold styCells at HK1
  have e1 : (w.alloc (.cells #[.string (bs c.key), .string (bs c.type), vA, vE, vF] 40)).heap.size = w.heap.size + 1 := by simp
  rw [e1] at HS1
  unfold styCells at HS1
  go_enter Tryz.func13, Tryz.ntmps13
  go_wp2_with fail
  have HSA := Lib.hid (HS0.out.kept HK1.out)
  have HKW := Lib.hid (HK0.out.trans HK1.out)
  clear HS0 HK0 HK1 e1
  generalize World.alloc (World.alloc _ _) _ = w0 at HS1 HSA HKW ⊢
  obtain ⟨S, HSS⟩ : ∃ B, Hid (w.heap.size = B) := ⟨_, rfl⟩
  rw [HSS.out] at HS1 HSA ⊢
  refine (HSP.out _ (HG.out.kept HKW.out)).mono ?_
  rintro e w1 ⟨v, rfl, hp, hk1⟩
  have HP1 := Lib.hid hp
  have HKW1 := Lib.hid (HKW.out.trans hk1)
  have HSA1 := Lib.hid (HSA.out.kept hk1)
  have HSY1 := Lib.hid (HS1.out.kept hk1)
  obtain ⟨ap, cp, rfl, hcp⟩ := hp.form
  clear hp hk1 HSP HSA HS1 HKW
  by_cases hE0 : E = 0
  case neg =>
    have hE' : (E == 0) = false := by rw [beq_eq_false_iff_ne]; exact hE0
    have HNN := Lib.hid (HNIL.out hE0)
    clear hE0
    go_wp2_with fail
    go_ret2
    exact ⟨by rw [HNN.out]; rfl, HKW1.out⟩
  subst hE0
  have hone : (#[.string (bs y.name), .bool y.numeric, .string (bs y.sort), .string (bs y.cite), .string (bs y.bare), .string (bs y.between), .string (bs y.begin_), .string (bs y.end_), .int .i64 y.most, vY] : Array Value).size = 10 := rfl
  go_wp2_with (first
    | (refine wpList_load_blk (by rfl) 40 (.tmp 7) (by rfl) S _ (by rfl) HSA1.out _ Tryz.underlying40 rfl Tryz.sizeSrc ?_)
    | (refine wpList_load_blk (by rfl) 24 (.tmp 8) (by rfl) (S + 1) _ (by rfl) HSY1.out _ Tryz.underlying24 rfl Tryz.sizeSty ?_))
  refine (HSV.out _ (HA.out.kept HKW1.out) (HE.out.kept HKW1.out) (HF.out.kept HKW1.out) (tab_kept HT.out HKW1.out)).mono ?_
  rintro e w2 ⟨m, es, rfl, hmz, hmap, hget, hk2⟩
  have HKW2 := Lib.hid (HKW1.out.trans hk2)
  have HSA2 := Lib.hid (HSA1.out.kept hk2)
  have HP2 := Lib.hid (HP1.out.kept hk2)
  have HMT2 := Lib.hid hmap
  have HGET := Lib.hid hget
  clear hmz hmap hget hk2 HSV HSA1 HSY1 HP1 hone
  have mk := fun w => run_makeMap (P := Tryz.prog) 68 w
  go_wp2_with fail
  have HCX := Lib.hid (Blk.new w2 64 #[.map (some m)])
  have HKX := Lib.hid (kept_alloc w2 (.cells #[.map (some m)] 64))
  have HMX := Lib.hid (MapV.made (w2.alloc (.cells #[.map (some m)] 64)))
  have HKX2 := Lib.hid (kept_alloc (w2.alloc (.cells #[.map (some m)] 64)) (.map #[] 0))
  have e1 : (w2.alloc (.cells #[.map (some m)] 64)).heap.size = w2.heap.size + 1 := by simp
  rw [e1] at HMX
  have hDz : (w2.alloc (.cells #[.map (some m)] 64)).heap.size ≤ w2.heap.size + 1 := by rw [e1]; exact Nat.le_refl _
  clear e1
  obtain ⟨X, HXX⟩ : ∃ X, Hid (w2.heap.size = X) := ⟨_, rfl⟩
  rw [HXX.out] at HCX HMX hDz ⊢
  have HCL : Hid (∀ k w', Kept (w2.alloc (.cells #[.map (some m)] 64)) w' → Calls Tryz.prog 32 #[.string (bs k), .pointer (some ⟨X, 0, none⟩), .pointer (some ⟨S, 0, none⟩)] w' fun e w'' => e = .returned (.string (bs (val k))) ∧ Kept w' w'') := fun k w' hk => HCLO.out k X S m es w' ((HCX.out.kept hk).cell 0 _ rfl) (HMT2.out.kept (HKX.out.trans hk)) HGET.out (HSA2.out.kept (HKX.out.trans hk)) (HF.out.kept (HKW2.out.trans (HKX.out.trans hk)))
  have HPX := Lib.hid (HP2.out.kept HKX.out)
  have HKWX := Lib.hid (HKW2.out.trans HKX.out)
  generalize World.alloc w2 _ = wX at *
  have HTK := Lib.hid (dropG_next ps val)
  have HO0 : Hid (dropG (ps.take 0) val = []) := rfl
  have HON : Hid (dropG (ps.take ps.length) val = dropG ps val) := by show _ = _; rw [List.take_of_length_le (Nat.le_refl _)]
  clear HCLO HMT2 HGET HSA2 HKW2 HKX HP2 HT HA HE HF HCX mk HXX
  obtain ⟨D, HDD⟩ : ∃ D, Hid (X + 1 = D) := ⟨_, rfl⟩
  rw [HDD.out] at HMX hDz ⊢
  (try simp only [mk_bs])
  go_loopw [42] (fun i wr => ∃ k : Nat, k ≤ ps.length ∧ i = .int .i64 k ∧ Hid (MapV wr D (setV (dropG (ps.take k) val))) ∧ Hid (Kept wX wr)) (fun i _ => ps.length - (intOf i).toNat)
  case atStart => exact ⟨0, Nat.zero_le _, rfl, HMX.out, HKX2.out⟩
  case round =>
    clear HMX HKX2
    obtain ⟨k, hk, rfl, HM, HKR⟩ := hrel
    by_cases hlt : k < ps.length
    · have hx := List.getElem?_eq_getElem hlt
      obtain ⟨g, o, rfl, hg, d0, d1, d2⟩ := (HPX.out.kept HKR.out).cell_of k _ hx
      have HST := Lib.hid (HTK.out k hlt)
      generalize ps[k] = p at *
      obtain ⟨x, f, gr⟩ := p
      simp only at d0 d1 d2 HST
      clear hx
      cases f with
      | false =>
        have HST2 : Hid (dropG (ps.take (k + 1)) val = dropG (ps.take k) val) := by show _ = _; rw [HST.out]; simp
        have HM2 := Lib.hid (HM.out.kept (kept_alloc wr (.cells #[.string (bs x), .bool false, .int .i64 gr] 70)))
        have HK2 := Lib.hid (HKR.out.trans (kept_alloc wr (.cells #[.string (bs x), .bool false, .int .i64 gr] 70)))
        rw [← HST2.out] at HM2
        clear HM HKR HST
        go_wp2_with fail
        go_roundw
        case rel => exact ⟨k + 1, by omega, by go_num, HM2.out, HK2.out⟩
        case measure => simp [intOf]; omega
      | true =>
        cases h3 : (gr == 0) with
        | true =>
          obtain rfl : gr = 0 := by simpa using h3
          have HST2 : Hid (dropG (ps.take (k + 1)) val = dropG (ps.take k) val) := by show _ = _; rw [HST.out]; simp
          have HM2 := Lib.hid (HM.out.kept (kept_alloc wr (.cells #[.string (bs x), .bool true, .int .i64 (0 : Nat)] 70)))
          have HK2 := Lib.hid (HKR.out.trans (kept_alloc wr (.cells #[.string (bs x), .bool true, .int .i64 (0 : Nat)] 70)))
          rw [← HST2.out] at HM2
          clear HM HKR HST h3
          go_wp2_with fail
          go_roundw
          case rel => exact ⟨k + 1, by omega, by go_num, HM2.out, HK2.out⟩
          case measure => simp [intOf]; omega
        | false =>
          have h3' : ((gr : Int) == 0) = false := by
            rw [beq_eq_false_iff_ne] at h3 ⊢; omega
          have h3n : ((gr : Int) != 0) = true := by rw [bne, h3']; rfl
          have h3g : 0 < gr := by rw [beq_eq_false_iff_ne] at h3; omega
          rw [h3] at HST
          have HMA := Lib.hid (HM.out.kept (kept_alloc wr (.cells #[.string (bs x), .bool true, .int .i64 gr] 70)))
          have HKA := Lib.hid (HKR.out.trans (kept_alloc wr (.cells #[.string (bs x), .bool true, .int .i64 gr] 70)))
          have HBA := Lib.hid (Blk.new wr 70 #[.string (bs x), .bool true, .int .i64 gr])
          have HCX := Lib.hid (fun w' h => HCL.out x w' h)
          clear HM HKR
          cases hv : (val x == ([] : Bs)) with
          | false =>
            have HST2 : Hid (dropG (ps.take (k + 1)) val = dropG (ps.take k) val) := by show _ = _; rw [HST.out, hv]; simp
            rw [← HST2.out] at HMA
            generalize val x = vx at *
            go_wp2_with fail
            refine (HCX.out _ HKA.out).mono ?_
            rintro e w5 ⟨rfl, hk5⟩
            have HM5 := Lib.hid (HMA.out.kept hk5)
            have HK5 := Lib.hid (HKA.out.trans hk5)
            clear hk5 HMA HKA
            go_wp2_with fail
            go_roundw
            case rel => exact ⟨k + 1, by omega, by go_num, HM5.out, HK5.out⟩
            case measure => simp [intOf]; omega
          | true =>
            have HST2 : Hid (dropG (ps.take (k + 1)) val = dropG (ps.take k) val ++ [(gr : Int)]) := by show _ = _; rw [HST.out, hv]; rfl
            have UP : Hid (∀ w', MapV w' D (setV (dropG (ps.take k) val)) → (Instr.mapUpdate 68 (.map (some D)) (.int .i64 gr) (.bool true)).run Tryz.prog w' = .ok () (putV w' D (setV (dropG (ps.take (k + 1)) val)))) := fun w' hm => by
              rw [HST2.out]
              cases hgv : getV (setV (dropG (ps.take k) val)) (gr : Int) with
              | none =>
                rw [setV_snoc, hgv]
                exact insV (P := Tryz.prog) Tryz.underlying68 Tryz.underlying3 w' _ _ gr (.bool true) hm hgv
              | some u =>
                have hu : u = .bool true := by
                  have := setV_is (dropG (ps.take k) val) gr
                  rw [hgv] at this
                  split at this
                  · exact Option.some.inj this
                  · cases this
                subst hu
                rw [setV_snoc, hgv]
                exact againV (P := Tryz.prog) Tryz.underlying68 Tryz.underlying3 w' _ _ gr (.bool true) hm hgv
            generalize val x = vx at *
            go_wp2_with fail
            refine (HCX.out _ HKA.out).mono ?_
            rintro e w5 ⟨rfl, hk5⟩
            have HM5 := Lib.hid (HMA.out.kept hk5)
            have HK5 := Lib.hid (HKA.out.trans hk5)
            have c2 : w5.cell? ⟨wr.heap.size, 2, none⟩ = some (.int .i64 gr) := (HBA.out.kept hk5).cell 2 _ rfl
            have zc := (HBA.out.kept hk5).lt
            have up := UP.out _ HM5.out
            have HM6 := Lib.hid (putV_map w5 D (setV (dropG (ps.take (k + 1)) val)) HM5.out.lt)
            have HK6 := Lib.hid (only_kept HK5.out (putV_only w5 D (setV (dropG (ps.take (k + 1)) val))) hDz)
            clear hk5 HMA HKA
            go_wp2_with fail
            go_roundw
            case rel => exact ⟨k + 1, by omega, by go_num, HM6.out, HK6.out⟩
            case measure => simp [intOf]; omega
    · obtain rfl : k = ps.length := by omega
      rw [HON.out] at HM
      have HPC := Lib.hid (HPX.out.kept HKR.out)
      have HCC : Hid (∀ k w', Kept wr w' → Calls Tryz.prog 32 #[.string (bs k), .pointer (some ⟨X, 0, none⟩), .pointer (some ⟨S, 0, none⟩)] w' fun e w'' => e = .returned (.string (bs (val k))) ∧ Kept w' w'') := fun k w' hk => HCL.out k w' (HKR.out.trans hk)
      have HKC := Lib.hid (HKWX.out.trans HKR.out)
      clear HTK HO0 HON HCL HPX HKWX HKR hlt
      obtain ⟨DS, HDS⟩ : ∃ l, Hid (dropG ps val = l) := ⟨_, rfl⟩
      rw [HDS.out] at HM
      have HFT : Hid (T = (ps.take ps.length).flatMap (fillP val DS)) := by
        show _ = _
        rw [HFS.out, List.take_of_length_le (Nat.le_refl _)]
        unfold fillB
        rw [HDS.out]
      have HFN := Lib.hid (fill_next ps (fillP val DS))
      have HFL : Hid (∀ k, ((ps.take k).flatMap (fillP val DS)).length ≤ 2000000000000) := fun k => by
        have h1 := fill_len (ps.take k) (fillP val DS) 20000000 (fun p hp => by
          unfold fillP
          split
          · simp
          · split
            · exact HVL.out _
            · have := HPL.out p (List.mem_of_mem_take hp); omega)
        have h2 : (ps.take k).length ≤ 100000 := by rw [List.length_take]; omega
        omega
      have HMC := Lib.hid HM.out
      have hwz : w.heap.size ≤ wr.heap.size := HKC.out.size
      clear HM HFS HDS
      go_wp2_with fail
      (try simp only [mk_bs])
      obtain ⟨wC, rfl⟩ : ∃ wo : World, wo = wr := ⟨_, rfl⟩
      go_loopw [66] (fun i wr => ∃ k : Nat, k ≤ ps.length ∧ i = .int .i64 k ∧ Hid (Lib.IsBuilder 74 5 wC.heap.size wC.heap.size (Lib.byteCells ((ps.take k).flatMap (fillP val DS))) wr) ∧ Hid (Kept wC wr)) (fun i _ => ps.length - (intOf i).toNat)
      case atStart =>
        refine ⟨0, Nat.zero_le _, rfl, ?_, kept_alloc _ _⟩
        show Lib.IsBuilder _ _ _ _ _ _
        refine .inl ⟨Nat.le_refl _, .slice none 0 0, ?_, World.ownsRow_nil _ _ _ _, by simp [Value.ownBlock]⟩
        exact heap_alloc_new wC _
      case round =>
        obtain ⟨k, hk, rfl, HB, HKR⟩ := hrel
        by_cases hlt : k < ps.length
        · have hx := List.getElem?_eq_getElem hlt
          obtain ⟨g, o, rfl, hg, d0, d1, d2⟩ := (HPC.out.kept HKR.out).cell_of k _ hx
          have HST := Lib.hid (HFN.out k hlt)
          have HPT := Lib.hid (HPL.out _ (List.getElem_mem hlt))
          generalize ps[k] = p at *
          obtain ⟨x, f, gr⟩ := p
          simp only at d0 d1 d2 HST HPT
          have hfl := HFL.out k
          generalize (ps.take k).flatMap (fillP val DS) = O at *
          have HBA := Lib.hid (bld_kept HB.out (kept_alloc wr (.cells #[.string (bs x), .bool f, .int .i64 gr] 70)))
          have HKA := Lib.hid (HKR.out.trans (kept_alloc wr (.cells #[.string (bs x), .bool f, .int .i64 gr] 70)))
          have HQA := Lib.hid (Blk.new wr 70 #[.string (bs x), .bool f, .int .i64 gr])
          have lk := lookV (P := Tryz.prog) Tryz.underlying68 Tryz.underlying3 (wr.alloc (.cells #[.string (bs x), .bool f, .int .i64 gr] 70)) D (setV DS) (gr : Int) (.bool false) (Tryz.zeroBool _) (HMC.out.kept HKA.out)
          rw [setV_has] at lk
          have HFP : fillP val DS ⟨x, f, gr⟩ = if DS.contains (gr : Int) = true then [] else if f = true then val x else x := rfl
          rw [HFP] at HST
          clear HFP
          clear hx HB HKR
          cases hct : DS.contains (gr : Int) with
          | true =>
            rw [hct] at HST lk
            simp only [if_true, List.append_nil] at HST
            clear hct
            rw [← HST.out] at HBA
            go_wp2_with fail
            go_roundw
            case rel => exact ⟨k + 1, by omega, by go_num, HBA.out, HKA.out⟩
            case measure => simp [intOf]; omega
          | false =>
            rw [hct] at HST lk
            simp only [Bool.false_eq_true, if_false] at HST
            clear hct
            cases f with
            | false =>
              simp only [Bool.false_eq_true, if_false] at HST
              go_wp2_with fail
              refine (bld_string wC.heap.size wC.heap.size _ x _ HBA.out (by rw [Lib.byteCells_length]; have := HPT.out; omega) HKA.out.size).mono ?_
              rintro e w5 ⟨rfl, hb5, hbe5⟩
              have HB5 : Hid (Lib.IsBuilder 74 5 wC.heap.size wC.heap.size (Lib.byteCells ((ps.take (k + 1)).flatMap (fillP val DS))) w5) := by
                refine .inr ?_
                show Lib.BuilderAt _ _ _ _ _ _ _
                rw [HST.out, byteCells_app]; exact hb5
              have HK5 := Lib.hid (HKA.out.trans' hbe5)
              clear hb5 hbe5
              go_wp2_with fail
              go_roundw
              case rel => exact ⟨k + 1, by omega, by go_num, HB5.out, HK5.out⟩
              case measure => simp [intOf]; omega
            | true =>
              simp only [if_true] at HST
              have HCX := Lib.hid (fun w' h => HCC.out x w' h)
              have hvl := HVL.out x
              generalize val x = vx at HCX HST hvl
              go_wp2_with fail
              refine (HCX.out _ HKA.out).mono ?_
              rintro e w4 ⟨rfl, hk4⟩
              have HB4 := Lib.hid (bld_kept HBA.out hk4)
              have HK4 := Lib.hid (HKA.out.trans hk4)
              clear hk4
              go_wp2_with fail
              refine (bld_string wC.heap.size wC.heap.size _ vx _ HB4.out (by rw [Lib.byteCells_length]; omega) HK4.out.size).mono ?_
              rintro e w5 ⟨rfl, hb5, hbe5⟩
              have HB5 : Hid (Lib.IsBuilder 74 5 wC.heap.size wC.heap.size (Lib.byteCells ((ps.take (k + 1)).flatMap (fillP val DS))) w5) := by
                refine .inr ?_
                show Lib.BuilderAt _ _ _ _ _ _ _
                rw [HST.out, byteCells_app]; exact hb5
              have HK5 := Lib.hid (HK4.out.trans' hbe5)
              clear hb5 hbe5
              go_wp2_with fail
              go_roundw
              case rel => exact ⟨k + 1, by omega, by go_num, HB5.out, HK5.out⟩
              case measure => simp [intOf]; omega
        · obtain rfl : k = ps.length := by omega
          rw [← HFT.out] at HB
          go_wp2_with fail
          refine (Tryz.Builder_String_any wC.heap.size wC.heap.size T _ HB.out HKR.out.size).mono ?_
          rintro e w5 ⟨rfl, hb5⟩
          have HK5 := Lib.hid (HKC.out.trans (HKR.out.trans' hb5))
          clear hb5
          go_wp2_with fail
          go_ret2
          exact ⟨rfl, HK5.out⟩
end Go.Proofs.YtafcngdnngpdnaaGreatDoor

/- template and num of publisherref31. Conditions: lengths. -/
set_option linter.all false
namespace Go.Proofs.YtafcngdnngpdnaaGreatDoor
open Go.RowKit

theorem rps_some (t : Bs) : (rpsT t).isSome = (splT t).isSome := by
  unfold rpsT; cases splT t <;> rfl
/-- The parts of a template that has no error. -/
theorem rps_of {t : Bs} (h : splE t = 0) : rpsT t = some (expL (splL t)) := by
  unfold rpsT
  have h1 : splL t = (splT t).getD [] := by unfold splL; rw [if_pos h]
  rw [h1]
  unfold splE at h
  split at h
  · cases h
  · split at h
    · rename_i q
      cases hs : splT t with
      | none => rw [hs] at q; cases q
      | some l => rfl
    · cases h
theorem splE_val {t : Bs} {b c : Bool} (h1 : lnB t = b) (h2 : (rpsT t).isSome = c) : splE t = if b = false then 17 else if c = true then 0 else 5 := by
  subst h1 h2; unfold splE; rw [rps_some]
set_option maxRecDepth 100000 in
set_option maxHeartbeats 1600000 in
theorem rtemplate_any (t : Bs) (w : World) (ht : t.length ≤ 100000) : Calls Tryz.prog 65 #[.string (bs t)] w fun e w' => e = .returned (.int .i64 (splE t)) ∧ Kept w w' := by
  have HL := Lib.hid (fun w => rline31_any t w (by omega))
  have HP := Lib.hid (fun w => rparts_any t w ht)
  unfold PartsP at HP
  obtain ⟨b, HB⟩ : ∃ b, Hid (lnB t = b) := ⟨_, rfl⟩
  obtain ⟨c, HC⟩ : ∃ c, Hid ((rpsT t).isSome = c) := ⟨_, rfl⟩
  have HE := Lib.hid (splE_val HB.out HC.out)
  rw [HE.out]
  rw [HB.out] at HL
  rw [HC.out] at HP
  clear HB HC HE
  generalize rpsT t = S at *
  go_enter Tryz.func65, Tryz.ntmps65
  go_wp2_with fail
  refine (HL.out _).mono ?_
  rintro e w1 ⟨rfl, hk1⟩
  have HK1 := Lib.hid hk1
  clear hk1
  cases b with
  | false =>
    go_wp2_with fail
    go_ret
    exact ⟨rfl, HK1.out⟩
  | true =>
    go_wp2_with fail
    refine (HP.out _).mono ?_
    rintro e w2 ⟨v, rfl, hv, -, hk2⟩
    have HK2 := Lib.hid (HK1.out.trans hk2)
    clear hk2
    cases c with
    | false =>
      go_wp2_with fail
      go_ret
      exact ⟨rfl, HK2.out⟩
    | true =>
      go_wp2_with fail
      go_ret
      exact ⟨rfl, HK2.out⟩
theorem add_bs31 {P : Program} (a b x : Bs) (n m : Nat) (hx : a ++ b = x) (ha : a.length ≤ n) (hb : b.length ≤ m) (h : n + m ≤ 9223372036854775807) : (∀ w, (Op.stringOp .add (bs a) (bs b)).run P w = .ok (.string (bs x)) w) ∧ x.length ≤ n + m := by
  subst hx
  refine ⟨fun w => ?_, by rw [List.length_append]; omega⟩
  rw [run_string_add_sum w (bs a) (bs b) (by simp only [bs_size]; omega), bs_append]
theorem itoa_nat (n : Nat) : Lib.itoa (n : Int) = Lib.decDigits n := by
  unfold Lib.itoa
  rw [if_neg (by omega), Int.toNat_natCast]
def tenL : Bs := [48, 49, 50, 51, 52, 53, 54, 55, 56, 57]
theorem ten_fin : ∀ k : Fin 10, (tenL.drop k.val).take (k.val + 1 - k.val) = [UInt8.ofNat (48 + k.val)] := by decide
theorem ten_at (k : Nat) (h : k < 10) : (tenL.drop k).take (k + 1 - k) = [UInt8.ofNat (48 + k)] := ten_fin ⟨k, h⟩
set_option maxRecDepth 100000 in
set_option maxHeartbeats 1600000 in
theorem rnum31_any : ∀ (n : Nat) (w : World), n ≤ 9223372036854775807 → Calls Tryz.prog 19 #[.int .i64 n] w fun e w' => e = .returned (.string (bs (Lib.decDigits n))) ∧ Kept w w' := by
  intro n
  induction n using Nat.strongRecOn with
  | ind n ih =>
  intro w hn
  have i1 := run_sub (P := Tryz.prog) (t := 9) Tryz.underlying9 tenL (n % 10) (n % 10 + 1) (by omega) (by show _ ≤ 10; omega) ((n % 10 : Nat) : Int) (((n % 10 : Nat) : Int) + 1) rfl (by omega) _ (ten_at (n % 10) (Nat.mod_lt _ (by decide)))
  unfold tenL at i1
  have r1 : Int.tmod (n : Int) 10 = ((n % 10 : Nat) : Int) := (Int.ofNat_tmod n 10).symm
  have hr : n % 10 < 10 := Nat.mod_lt _ (by decide)
  by_cases h10 : n < 10
  · have HD : Hid (Lib.decDigits n = [UInt8.ofNat (48 + n % 10)]) := by show _ = _; rw [Lib.decDigits_one h10, Nat.mod_eq_of_lt h10]
    rw [HD.out]
    clear ih HD
    generalize n % 10 = r at *
    generalize UInt8.ofNat (48 + r) = d at *
    go_enter Tryz.func19, Tryz.ntmps19
    go_wp2_with fail
    go_ret
    exact ⟨rfl, Kept.refl _⟩
  · have HI := Lib.hid (fun w => ih (n / 10) (by omega) w (by omega))
    have HD := Lib.hid (decDigits_ten n h10)
    have hl : (Lib.decDigits (n / 10)).length ≤ 21 := by
      have := itoa_len ((n / 10 : Nat) : Int) (by omega) (by omega)
      rw [itoa_nat] at this; exact this
    have r2 : Int.tdiv (n : Int) 10 = ((n / 10 : Nat) : Int) := (Int.ofNat_tdiv n 10).symm
    rw [HD.out]
    clear ih
    obtain ⟨sa, -⟩ := add_bs31 (P := Tryz.prog) (Lib.decDigits (n / 10)) [UInt8.ofNat (48 + n % 10)] _ 21 1 rfl hl (by simp) (by decide)
    generalize n % 10 = r at *
    generalize UInt8.ofNat (48 + r) = d at *
    generalize Lib.decDigits (n / 10) = D at *
    go_enter Tryz.func19, Tryz.ntmps19
    go_wp2_with fail
    refine (HI.out _).mono ?_
    rintro e w2 ⟨rfl, hk2⟩
    have HK2 := Lib.hid hk2
    clear hk2
    go_wp2_with fail
    go_ret
    exact ⟨rfl, HK2.out⟩
end Go.Proofs.YtafcngdnngpdnaaGreatDoor
