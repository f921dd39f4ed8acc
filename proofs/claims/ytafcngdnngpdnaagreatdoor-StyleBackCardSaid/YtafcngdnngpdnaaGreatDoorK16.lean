/- Parts of the reference of styles. Conditions: lengths. -/
import Derived.Test.YtafcngdnngpdnaaGreatDoorK15
import Derived.Test.YtafcngdnngpdnaaGreatDoorK09
import Derived.Test.YtafcngdnngpdnaaGreatDoorK02
import Derived.Test.YtafcngdnngpdnaaGreatDoorK08

set_option linter.all false
namespace Go.Proofs.YtafcngdnngpdnaaGreatDoor
open Go.RowKit

def rpC (ps : List Rp) : List Value := ps.flatMap fun q => [.string (bs q.txt), .string (bs q.fld), .int .i64 (q.grp : Int)]
theorem rpC_snoc (ps : List Rp) (q : Rp) : rpC (ps ++ [q]) = rpC ps ++ [.string (bs q.txt), .string (bs q.fld), .int .i64 (q.grp : Int)] := by simp [rpC]
theorem rpC_at (ps : List Rp) (j : Nat) (q : Rp) (h : ps[j]? = some q) : (rpC ps)[j * 3]? = some (.string (bs q.txt)) ∧ (rpC ps)[j * 3 + 1]? = some (.string (bs q.fld)) ∧ (rpC ps)[j * 3 + 2]? = some (.int .i64 (q.grp : Int)) := by
  induction ps generalizing j with
  | nil => cases h
  | cons p ps ih =>
    have e : rpC (p :: ps) = [.string (bs p.txt), .string (bs p.fld), .int .i64 (p.grp : Int)] ++ rpC ps := by simp [rpC]
    rw [e]
    cases j with
    | zero =>
      simp at h; subst h
      exact ⟨rfl, rfl, rfl⟩
    | succ j =>
      obtain ⟨h0, h1, h2⟩ := ih j (by simpa using h)
      rw [List.getElem?_append_right (by simp; omega), List.getElem?_append_right (by simp; omega), List.getElem?_append_right (by simp; omega)]
      simp only [List.length_cons, List.length_nil]
      rw [show (j + 1) * 3 - (0 + 1 + 1 + 1) = j * 3 by omega, show (j + 1) * 3 + 1 - (0 + 1 + 1 + 1) = j * 3 + 1 by omega, show (j + 1) * 3 + 2 - (0 + 1 + 1 + 1) = j * 3 + 2 by omega]
      exact ⟨h0, h1, h2⟩
/-- The slice value v reads in w as the parts ps. -/
def Rps (w : World) (v : Value) (ps : List Rp) : Prop :=
  ∃ a c, v = .slice a ps.length c ∧ ps.length ≤ c ∧ (0 < ps.length → ∃ g o, a = some ⟨g, o, none⟩ ∧ g < w.heap.size ∧ ∀ j q, ps[j]? = some q →
    w.cell? ⟨g, o + j * 3, none⟩ = some (.string (bs q.txt)) ∧ w.cell? ⟨g, o + j * 3 + 1, none⟩ = some (.string (bs q.fld)) ∧ w.cell? ⟨g, o + j * 3 + 2, none⟩ = some (.int .i64 (q.grp : Int)))
theorem Rps.kept {w w' : World} {v : Value} {ps : List Rp} (h : Rps w v ps) (k : Kept w w') : Rps w' v ps := by
  obtain ⟨a, c, hv, hc, h3⟩ := h
  refine ⟨a, c, hv, hc, fun q => ?_⟩
  obtain ⟨g, o, ha, hg, hcell⟩ := h3 q
  refine ⟨g, o, ha, Nat.lt_of_lt_of_le hg k.size, fun j x hx => ?_⟩
  obtain ⟨c0, c1, c2⟩ := hcell j x hx
  exact ⟨(k.cell (p := ⟨g, o + j * 3, none⟩) hg).trans c0, (k.cell (p := ⟨g, o + j * 3 + 1, none⟩) hg).trans c1, (k.cell (p := ⟨g, o + j * 3 + 2, none⟩) hg).trans c2⟩
theorem Rps.own {w : World} {base : Nat} {e : TypeId} {v : Value} {ps : List Rp} (h : w.ownsRow base e 3 v ps.length (rpC ps)) : Rps w v ps := by
  obtain ⟨a, c, hv, hc, _, h3⟩ := own_cap h
  refine ⟨a, c, hv, hc, fun q => ?_⟩
  obtain ⟨g, ha, _, hg, hcell⟩ := h3 q
  refine ⟨g, 0, ha, hg, fun j x hx => ?_⟩
  obtain ⟨c0, c1, c2⟩ := rpC_at ps j x hx
  simp only [Nat.zero_add]
  exact ⟨hcell _ _ c0, hcell _ _ c1, hcell _ _ c2⟩
theorem Rps.form {w : World} {v : Value} {ps : List Rp} (h : Rps w v ps) : ∃ a c, v = .slice a ps.length c ∧ ps.length ≤ c := by
  obtain ⟨a, c, hv, hc, _⟩ := h; exact ⟨a, c, hv, hc⟩
theorem Rps.cell_of {w : World} {a : Option Addr} {n c : Nat} {ps : List Rp} (h : Rps w (.slice a n c) ps) (k : Nat) (q : Rp) (hx : ps[k]? = some q) :
    ∃ g o, a = some ⟨g, o, none⟩ ∧ g < w.heap.size ∧ w.cell? ⟨g, o + k * 3, none⟩ = some (.string (bs q.txt)) ∧ w.cell? ⟨g, o + k * 3 + 1, none⟩ = some (.string (bs q.fld)) ∧ w.cell? ⟨g, o + k * 3 + 2, none⟩ = some (.int .i64 (q.grp : Int)) := by
  obtain ⟨a', c', hv, hc, h3⟩ := h
  obtain ⟨rfl, rfl, rfl⟩ := Value.slice.inj hv
  obtain ⟨hk, _⟩ := List.getElem?_eq_some_iff.1 hx
  obtain ⟨g, o, ha, hg, hcell⟩ := h3 (by omega)
  obtain ⟨c0, c1, c2⟩ := hcell k q hx
  exact ⟨g, o, ha, hg, c0, c1, c2⟩
theorem Tryz.infoRp : (Tryz.prog.info? 127).map (fun i => (i.zero, i.size, i.bytes)) = some (some (.agg #[.string ⟨#[]⟩, .string ⟨#[]⟩, .int .i64 0]), 3, 40) := by kernel_rfl
set_option maxRecDepth 100000 in
/-- A part that lies in a block of its own, appended in a plain region. -/
theorem wpList_append_rp (w : World) {ops : Array Oper} {rest : List Oper} {o : Oper} {a : Act} {Q : Exit → Act → World → Prop} (hgd : o.guard = none) (s x : Operand)
    (ho : o.op = .call { callee := .builtin .append, args := #[s, x], argTypes := #[93, 93] })
    (base : Nat) (v : Value) (ps : List Rp) (hs : a.eval s = v) (hown : w.ownsRow base 127 3 v ps.length (rpC ps)) (q : Rp) (g : Nat) (hx : a.eval x = .slice (some ⟨g, 0, none⟩) 1 1)
    (hb : Blk w g 127 #[.string (bs q.txt), .string (bs q.fld), .int .i64 (q.grp : Int)]) (hl : ps.length ≤ 1000000) (hbase : base ≤ w.heap.size)
    (h : ∀ v' w', w'.ownsRow base 127 3 v' (ps ++ [q]).length (rpC (ps ++ [q])) → w.grownBy w' v.ownBlock → wpList Tryz.prog ops Q rest (a.put o.dst v') w') :
    wpList Tryz.prog ops Q (o :: rest) a w := by
  obtain ⟨i0, hi, hz0, hz1, hz2⟩ := info_parts Tryz.infoRp
  refine wpList_append_lies w hgd s x 93 ho base 127 i0 (.agg #[.string ⟨#[]⟩, .string ⟨#[]⟩, .int .i64 0]) 3 40 Tryz.underlying93 hi hz0 hz1 hz2 rfl (by decide) v ps.length (rpC ps) hs hown ⟨g, 0, none⟩ 1 1 [.string (bs q.txt), .string (bs q.fld), .int .i64 (q.grp : Int)] hx rfl (fun j u hu => ?_) (fun u hu => ?_) (by decide) (by unfold maxLen; omega) (by omega) hbase w.heap.size rfl (fun g' cap w' h1 h2 _ _ => h _ w' ?_ h2)
  · rw [addr_at, Nat.zero_add]
    match j with
    | 0 => cases hu; exact hb.cell 0 _ rfl
    | 1 => cases hu; exact hb.cell 1 _ rfl
    | 2 => cases hu; exact hb.cell 2 _ rfl
    | j + 3 => simp at hu
  · simp at hu
    rcases hu with rfl | rfl | rfl <;> rfl
  · rw [rpC_snoc, List.length_append]; exact h1
/-- How many small letters stand ahead. -/
def lowN (l : Bs) : Nat := (l.takeWhile lowB).length
theorem lowN_at {r : Bs} {j : Nat} (h : ∀ i (hi : i < r.length), i < j → lowB r[i] = true) (hj : j ≤ r.length) (hn : ∀ (hi : j < r.length), lowB r[j] = false) : lowN r = j := by
  induction r generalizing j with
  | nil => simp at hj; subst hj; rfl
  | cons b r ih =>
    cases j with
    | zero =>
      have := hn (by simp)
      simp only [List.getElem_cons_zero] at this
      unfold lowN
      rw [List.takeWhile_cons, this]; rfl
    | succ j =>
      have h0 := h 0 (by simp) (by omega)
      simp only [List.getElem_cons_zero] at h0
      have := ih (j := j) (fun i hi hij => by have := h (i + 1) (by simp; omega) (by omega); simpa using this) (by simpa using hj) (fun hi => by have := hn (by simp; omega); simpa using this)
      unfold lowN at this ⊢
      rw [List.takeWhile_cons, h0, if_pos rfl, List.length_cons, this]
theorem before_at {c : UInt8} {r : Bs} {j : Nat} (h : ∀ i (hi : i < r.length), i < j → r[i] ≠ c) (hj : j < r.length) (he : r[j] = c) : before c r = j := by
  rcases Nat.lt_trichotomy (before c r) j with q | q | q
  · exact absurd (before_here c r (by omega)) (h _ (by omega) q)
  · exact q
  · exact absurd he (before_none c r j q hj)
theorem low_brace {b : UInt8} (h : lowB b = true) : b ≠ 125 := by
  rintro rfl
  exact absurd h (by decide)
/-- The reference's test of a field is the code's. -/
theorem fld_cond (r : Bs) : (before 125 r < r.length ∧ smallB (r.take (before 125 r)) 20 [] = true) ↔ (1 ≤ lowN r ∧ lowN r ≤ 20 ∧ ∃ h : lowN r < r.length, r[lowN r] = 125) := by
  have hall : ∀ i (hi : i < r.length), i < lowN r → lowB r[i] = true := by
    intro i hi hl
    unfold lowN at hl
    have h1 : (r.takeWhile lowB)[i]'hl ∈ r.takeWhile lowB := List.getElem_mem hl
    have h2 := List.all_eq_true.1 (List.all_takeWhile (p := lowB) (l := r)) _ h1
    have h3 : (r.takeWhile lowB)[i]'hl = r[i] := List.IsPrefix.getElem (List.takeWhile_prefix _) hl
    rwa [h3] at h2
  constructor
  · rintro ⟨h1, h2⟩
    have h3 := before_here 125 r h1
    unfold smallB at h2
    rw [Bool.and_eq_true, Bool.and_eq_true, decide_eq_true_eq, decide_eq_true_eq, List.all_eq_true, List.length_take] at h2
    obtain ⟨a1, a2, a3⟩ := h2
    have hlow : ∀ i (hi : i < r.length), i < before 125 r → lowB r[i] = true := fun i hi hb => by
      have := a3 r[i] (List.mem_take_iff_getElem.2 ⟨i, by omega, rfl⟩)
      simpa using this
    have e : lowN r = before 125 r := lowN_at hlow (by omega) (fun hi => by rw [h3]; decide)
    rw [e]
    exact ⟨by omega, by omega, h1, h3⟩
  · rintro ⟨h1, h2, h3, h4⟩
    have e : before 125 r = lowN r := before_at (fun i hi hl => low_brace (hall i hi hl)) h3 h4
    rw [e]
    refine ⟨h3, ?_⟩
    unfold smallB
    rw [Bool.and_eq_true, Bool.and_eq_true, decide_eq_true_eq, decide_eq_true_eq, List.all_eq_true, List.length_take]
    refine ⟨by omega, by omega, fun b hb => ?_⟩
    obtain ⟨i, hi, e⟩ := List.mem_take_iff_getElem.1 hb
    rw [← e, hall i (by omega) (by omega)]; rfl
def PartsP (S : Option (List Rp)) (w : World) (e : Ending) (w' : World) : Prop := ∃ v, e = .returned (.tuple #[v, .bool S.isSome]) ∧ v.oneCell' = true ∧ (∀ l, S = some l → Rps w' v l) ∧ Kept w w'
theorem map_pre2 (ps : List Rp) (q : Rp) (o : Option (List Rp)) : (o.map fun l => q :: l).map (ps ++ ·) = o.map ((ps ++ [q]) ++ ·) := by
  cases o <;> simp
set_option maxRecDepth 100000 in
set_option maxHeartbeats 12800000 in
theorem rparts_any (t : Bs) (w : World) (ht : t.length ≤ 100000) : Calls Tryz.prog 66 #[.string (bs t)] w (PartsP (rpsT t) w) := by
  have H5 : Hid (rpsT t = none → ∀ w', Kept w w' → PartsP (rpsT t) w (.returned (.tuple #[.slice none 0 0, .bool false])) w') := fun h w' k => by
    rw [h]; exact ⟨_, rfl, rfl, (fun l q => by cases q), k⟩
  have H6 : Hid (rpsT t = none → ∀ v w', v.oneCell' = true → Kept w w' → PartsP (rpsT t) w (.returned (.tuple #[v, .bool false])) w') := fun h v w' hv k => by
    rw [h]; exact ⟨_, rfl, hv, (fun l q => by cases q), k⟩
  have HOK : Hid (∀ l, rpsT t = some l → ∀ w' v, Rps w' v l → Kept w w' → PartsP (rpsT t) w (.returned (.tuple #[v, .bool true])) w') := fun l h w' v hp k => by
    rw [h]
    refine ⟨v, rfl, ?_, (fun l' q => by cases q; exact hp), k⟩
    obtain ⟨a, c, rfl, _⟩ := hp.form; rfl
  have H0 : Hid (rpsT t = (rpsP (t.length + 1) (t.drop 0) 0 0).map (([] : List Rp) ++ ·)) := by
    show _ = _
    rw [rpsT_eq, List.drop_zero]
    cases rpsP (t.length + 1) t 0 0 <;> simp
  generalize hP : PartsP (rpsT t) w = P at *
  generalize rpsT t = S at *
  clear hP
  go_enter Tryz.func66, Tryz.ntmps66
  go_wp2_with fail
  go_loopw [4, 5, 6, 7] (fun ov gv hv iv wr => ∃ (f : Nat) (ps : List Rp) (G g i : Nat), gv = .int .i64 G ∧ hv = .bool (!(g == 0)) ∧ iv = .int .i64 i ∧ Hid (wr.ownsRow w.heap.size 127 3 ov ps.length (rpC ps)) ∧ i ≤ t.length ∧ t.length - i < f ∧ ps.length ≤ i ∧ G ≤ i ∧ (g = 0 ∨ g = G) ∧ Hid (S = (rpsP f (t.drop i) G g).map (ps ++ ·)) ∧ Hid (Kept w wr)) (fun _ _ _ iv _ => t.length - (intOf iv).toNat)
  case atStart => exact ⟨t.length + 1, [], 0, 0, 0, rfl, rfl, rfl, World.ownsRow_nil _ _ _ _, by omega, by omega, by simp, by omega, .inl rfl, H0.out, Kept.refl _⟩
  case round =>
    obtain ⟨f, ps, G, g, i, rfl, rfl, rfl, HOWN, hi, hf, hps, hG, hgG, HSP, HKR⟩ := hrel
    obtain ⟨f, rfl⟩ : ∃ f', f = f' + 1 := ⟨f - 1, by omega⟩
    have hsz : w.heap.size ≤ wr.heap.size := HKR.out.size
    by_cases hlt : i < t.length
    · have i0 := run_ix (P := Tryz.prog) (t := 9) Tryz.underlying9 t i hlt i rfl
      have i1 := run_sub (P := Tryz.prog) (t := 9) Tryz.underlying9 t i (i + 1) (by omega) (by omega) i ((i : Int) + 1) rfl (by omega) _ (sub_one t i hlt)
      have HDR : Hid (t.drop i = t[i] :: t.drop (i + 1)) := List.drop_eq_getElem_cons hlt
      have h8 := at8_get t i hlt
      rw [HDR.out] at HSP
      generalize t[i] = b at HSP h8 i1
      rw [h8] at i0
      clear HDR h8
      cases hin : inSet spSet b with
      | false =>
        rw [rpsP_run _ _ _ hin, map_pre2] at HSP
        have hne : ∀ n : Nat, n < 256 → inSet spSet (UInt8.ofNat n) = true → ((b.toNat : Int) == (n : Int)) = false := fun n hn hs => by
          rw [beq_eq_false_iff_ne]
          intro q
          have := (u8_int b n hn).1 q
          rw [this, hs] at hin; cases hin
        have b1 : ((b.toNat : Int) == 123) = false := hne 123 (by decide) (by decide)
        have b2 : ((b.toNat : Int) == 125) = false := hne 125 (by decide) (by decide)
        have b3 : ((b.toNat : Int) == 91) = false := hne 91 (by decide) (by decide)
        have b4 : ((b.toNat : Int) == 93) = false := hne 93 (by decide) (by decide)
        clear hne hin
        by_cases hg0 : g = 0
        · subst hg0
          have hgb : ((0 : Nat) == 0) = true := rfl
          rw [hgb]
          simp only [Bool.not_true]
          have HBQ := Lib.hid (Blk.new wr 127 #[.string (bs [b]), .string (bs []), .int .i64 (0 : Nat)])
          have HOA := Lib.hid (HOWN.out.alloc (.cells #[.string (bs [b]), .string (bs []), .int .i64 (0 : Nat)] 127))
          have HKA := Lib.hid (HKR.out.trans (kept_alloc wr (.cells #[.string (bs [b]), .string (bs []), .int .i64 (0 : Nat)] 127)))
          go_wp2_with (at_builtin; refine wpList_append_rp _ (by rfl) (.tmp 19) (.tmp 27) (by rfl) w.heap.size _ ps (by rfl) HOA.out ⟨[b], [], (0 : Nat)⟩ wr.heap.size (by rfl) HBQ.out (by omega) HKA.out.size ?_; intro v5 w5 hown5 hgrow5; rw [List.length_append, List.length_singleton] at hown5; have HO5 := Lib.hid hown5; have HK5 := Lib.hid (HKA.out.trans' (grown_below HOA.out hgrow5 HKA.out.size)); obtain ⟨a5, c5, rfl, -, -, -⟩ := own_cap hown5; clear hown5 hgrow5)
          go_roundw
          case rel => exact ⟨f, ps ++ [Rp.mk [b] [] (0 : Nat)], G, (0 : Nat), i + 1, rfl, rfl, by go_num, (by show World.ownsRow _ _ _ _ _ _ _; rw [List.length_append]; exact HO5.out), by omega, by omega, by rw [List.length_append, List.length_singleton]; omega, by omega, .inl rfl, HSP.out, HK5.out⟩
          case measure => simp [intOf]; omega
        · have hgb : (g == 0) = false := by rw [beq_eq_false_iff_ne]; exact hg0
          obtain rfl : g = G := hgG.resolve_left hg0
          rw [hgb]
          simp only [Bool.not_false]
          have HBQ := Lib.hid (Blk.new wr 127 #[.string (bs [b]), .string (bs []), .int .i64 g])
          have HOA := Lib.hid (HOWN.out.alloc (.cells #[.string (bs [b]), .string (bs []), .int .i64 g] 127))
          have HKA := Lib.hid (HKR.out.trans (kept_alloc wr (.cells #[.string (bs [b]), .string (bs []), .int .i64 g] 127)))
          go_wp2_with (at_builtin; refine wpList_append_rp _ (by rfl) (.tmp 19) (.tmp 27) (by rfl) w.heap.size _ ps (by rfl) HOA.out ⟨[b], [], g⟩ wr.heap.size (by rfl) HBQ.out (by omega) HKA.out.size ?_; intro v5 w5 hown5 hgrow5; rw [List.length_append, List.length_singleton] at hown5; have HO5 := Lib.hid hown5; have HK5 := Lib.hid (HKA.out.trans' (grown_below HOA.out hgrow5 HKA.out.size)); obtain ⟨a5, c5, rfl, -, -, -⟩ := own_cap hown5; clear hown5 hgrow5)
          go_roundw
          case rel => exact ⟨f, ps ++ [Rp.mk [b] [] g], g, g, i + 1, rfl, by rw [hgb]; rfl, by go_num, (by show World.ownsRow _ _ _ _ _ _ _; rw [List.length_append]; exact HO5.out), by omega, by omega, by rw [List.length_append, List.length_singleton]; omega, by omega, .inr rfl, HSP.out, HK5.out⟩
          case measure => simp [intOf]; omega
      | true =>
        have hb := spSet_cases hin
        clear hin
        rcases hb with rfl | rfl | rfl | rfl
        · -- a field
          have i0' : ∀ w, (Instr.index 9 (.string (bs t)) (.int .i64 (i : Int))).run Tryz.prog w = .ok (.int .u8 123) w := i0
          clear i0
          rw [rpsP_fld] at HSP
          have HLEN : Hid ((t.drop (i + 1)).length = t.length - (i + 1)) := by show _ = _; rw [List.length_drop]
          have HAT : Hid (∀ j, j < (t.drop (i + 1)).length → at8 t (i + 1 + j) = at8 (t.drop (i + 1)) j) := fun j _ => by
            unfold at8
            rw [List.getD_eq_getElem?_getD, List.getD_eq_getElem?_getD, List.getElem?_drop]
          have HFC := Lib.hid (fld_cond (t.drop (i + 1)))
          have HSL : Hid (∀ j, j ≤ (t.drop (i + 1)).length → ∀ w, (Instr.slice 9 (.string (bs t)) (some (.int .i64 ((i : Int) + 1))) (some (.int .i64 ((i + 1 + j : Nat) : Int))) none).run Tryz.prog w = .ok (.string (bs ((t.drop (i + 1)).take j))) w) := fun j hj w => by
            rw [List.length_drop] at hj
            exact run_sub (P := Tryz.prog) (t := 9) Tryz.underlying9 t (i + 1) (i + 1 + j) (by omega) (by omega) ((i : Int) + 1) ((i + 1 + j : Nat) : Int) (by omega) rfl _ (by congr 1; omega) w
          have HDD : Hid (∀ j, (t.drop (i + 1)).drop (j + 1) = t.drop (i + 1 + j + 1)) := fun j => by rw [List.drop_drop]; congr 1
          obtain ⟨r, HR⟩ : ∃ r, Hid (t.drop (i + 1) = r) := ⟨_, rfl⟩
          rw [HR.out] at HSP HLEN HAT HFC HSL HDD
          have hrl := HLEN.out
          clear HLEN HR i1
          by_cases hg0 : g = 0
          · subst hg0
            have hgb : ((0 : Nat) == 0) = true := rfl
            rw [hgb]
            simp only [Bool.not_true]
            go_wp2_with fail
            obtain ⟨wo, rfl⟩ : ∃ wo : World, wo = wr := ⟨_, rfl⟩
            go_loop [9] (fun kv => ∃ j : Nat, j ≤ r.length ∧ kv = .int .i64 ((i + 1 + j : Nat) : Int) ∧ Hid (∀ m (hm : m < r.length), m < j → lowB r[m] = true)) (fun kv => t.length - (intOf kv).toNat)
            case atStart => exact ⟨0, Nat.zero_le _, by go_num, fun m hm h => by omega⟩
            case round =>
              obtain ⟨j, hj, rfl, HLW⟩ := hrel
              obtain ⟨K, HK⟩ : ∃ K : Int, Hid (((i + 1 + j : Nat) : Int) = K) := ⟨_, rfl⟩
              have hK0 : 0 ≤ K := by rw [← HK.out]; omega
              have hK1 : K ≤ 1000000 := by rw [← HK.out]; omega
              by_cases hjl : j < r.length
              · have i2 := run_ix (P := Tryz.prog) (t := 9) Tryz.underlying9 t (i + 1 + j) (by omega) ((i + 1 + j : Nat) : Int) rfl
                rw [HAT.out j hjl] at i2
                have h80 := at8_lo r j
                have h81 := at8_hi r j
                have HLOW : Hid (lowB r[j] = (decide (97 ≤ at8 r j) && decide (at8 r j ≤ 122))) := by
                  show _ = _
                  rw [at8_get r j hjl]; rfl
                have HRL := Lib.hid (fun w => rlow_any (at8 r j) w h80 h81)
                have hjt : K < (t.length : Int) := by rw [← HK.out]; omega
                obtain ⟨lb, HLB⟩ : ∃ x, Hid (lowB r[j] = x) := ⟨lowB r[j], rfl⟩
                rw [← HLOW.out, HLB.out] at HRL
                cases lb with
                | true =>
                  have HNX : Hid (∀ m (hm : m < r.length), m < j + 1 → lowB r[m] = true) := fun m hm hmj => by
                    rcases Nat.lt_or_ge m j with q | q
                    · exact HLW.out m hm q
                    · obtain rfl : m = j := by omega
                      exact HLB.out
                  clear HLOW HLB HLW
                  generalize at8 r j = bj at *
                  rw [HK.out] at i2 ⊢
                  go_wp2_with fail
                  refine (HRL.out _).mono ?_
                  rintro e w2 ⟨rfl, rfl⟩
                  go_wp2_with fail
                  go_round
                  case rel => exact ⟨j + 1, by omega, by rw [← HK.out]; go_num, HNX.out⟩
                  case measure => rw [← HK.out]; simp [intOf]; omega
                | false =>
                  have HN : Hid (lowN r = j) := lowN_at HLW.out (by omega) (fun _ => HLB.out)
                  have HBR : Hid (at8 r j = 125 ↔ r[j] = 125) := by
                    show _ ↔ _
                    rw [at8_get r j hjl]; exact u8_int _ 125 (by decide)
                  rw [HN.out] at HFC
                  clear HLOW HN
                  by_cases j0 : j = 0
                  · have HNC : ¬ _ := fun q => absurd (HFC.out.1 q).1 (by omega)
                    have HS : Hid (S = none) := by show _ = _; rw [HSP.out, if_neg HNC]; rfl
                    clear HSP HNC
                    have e1 : (K == ((i : Int) + 1)) = true := by rw [← HK.out, j0, beq_iff_eq]; omega
                    generalize at8 r j = bj at *
                    rw [HK.out] at i2 ⊢
                    clear j0 HLB HLW HFC HBR
                    go_wp2_with fail
                    refine (HRL.out _).mono ?_
                    rintro e w2 ⟨rfl, rfl⟩
                    go_wp2_with fail
                    exact H5.out HS.out _ HKR.out
                  have e1 : (K == ((i : Int) + 1)) = false := by rw [← HK.out, beq_eq_false_iff_ne]; omega
                  by_cases j20 : 20 < j
                  · have HNC : ¬ _ := fun q => absurd (HFC.out.1 q).2.1 (by omega)
                    have HS : Hid (S = none) := by show _ = _; rw [HSP.out, if_neg HNC]; rfl
                    clear HSP HNC
                    have e2 : (i : Int) + 21 < K := by rw [← HK.out]; omega
                    generalize at8 r j = bj at *
                    rw [HK.out] at i2 ⊢
                    clear j0 j20 HLB HLW HFC HBR
                    go_wp2_with fail
                    refine (HRL.out _).mono ?_
                    rintro e w2 ⟨rfl, rfl⟩
                    go_wp2_with fail
                    exact H5.out HS.out _ HKR.out
                  have e2 : ¬ (i : Int) + 21 < K := by rw [← HK.out]; omega
                  have e3 : (K == (t.length : Int)) = false := by rw [beq_eq_false_iff_ne]; omega
                  by_cases hbr : at8 r j = 125
                  · have HC := HFC.out.2 ⟨by omega, by omega, hjl, HBR.out.1 hbr⟩
                    have HB : Hid (before 125 r = j) := before_at (fun m hm h => low_brace (HLW.out m hm h)) hjl (HBR.out.1 hbr)
                    rw [if_pos HC, map_pre2, HB.out, HDD.out j] at HSP
                    have i3 := HSL.out j hj
                    rw [hbr] at i2 HRL
                    clear HC HB HBR HLB HLW HFC j0 j20 hbr
                    generalize at8 r j = bj at *
                    generalize r.take j = X at *
                    rw [HK.out] at i2 i3 ⊢
                    go_wp2_with fail
                    refine (HRL.out _).mono ?_
                    rintro e w2 ⟨rfl, rfl⟩
                    have HBQ := Lib.hid (Blk.new wo 127 #[.string (bs []), .string (bs X), .int .i64 (0 : Nat)])
                    have HOA := Lib.hid (HOWN.out.alloc (.cells #[.string (bs []), .string (bs X), .int .i64 (0 : Nat)] 127))
                    have HKA := Lib.hid (HKR.out.trans (kept_alloc wo (.cells #[.string (bs []), .string (bs X), .int .i64 (0 : Nat)] 127)))
                    go_wp2_with (at_builtin; refine wpList_append_rp _ (by rfl) (.tmp 82) (.tmp 90) (by rfl) w.heap.size _ ps (by rfl) HOA.out ⟨[], X, (0 : Nat)⟩ wo.heap.size (by rfl) HBQ.out (by omega) HKA.out.size ?_; intro v5 w5 hown5 hgrow5; rw [List.length_append, List.length_singleton] at hown5; have HO5 := Lib.hid hown5; have HK5 := Lib.hid (HKA.out.trans' (grown_below HOA.out hgrow5 HKA.out.size)); obtain ⟨a5, c5, rfl, -, -, -⟩ := own_cap hown5; clear hown5 hgrow5)
                    go_roundw
                    case rel => exact ⟨f, ps ++ [Rp.mk [] X (0 : Nat)], G, (0 : Nat), i + 1 + j + 1, rfl, rfl, by rw [← HK.out]; go_num, (by show World.ownsRow _ _ _ _ _ _ _; rw [List.length_append]; exact HO5.out), by omega, by omega, by rw [List.length_append, List.length_singleton]; omega, by omega, .inl rfl, HSP.out, HK5.out⟩
                    case measure => rw [← HK.out]; simp [intOf]; omega
                  · have HNC : ¬ _ := fun q => by
                      obtain ⟨_, _, h1, h2⟩ := HFC.out.1 q
                      exact hbr (HBR.out.2 h2)
                    have HS : Hid (S = none) := by show _ = _; rw [HSP.out, if_neg HNC]; rfl
                    clear HSP HNC
                    have e4 : (at8 r j == 125) = false := by simpa using hbr
                    have e5 : (at8 r j != 125) = true := by rw [bne, e4]; rfl
                    clear j0 j20 hbr HLB HLW HFC HBR
                    generalize at8 r j = bj at *
                    rw [HK.out] at i2 ⊢
                    go_wp2_with fail
                    refine (HRL.out _).mono ?_
                    rintro e w2 ⟨rfl, rfl⟩
                    go_wp2_with fail
                    exact H5.out HS.out _ HKR.out
              · have HN : Hid (lowN r = j) := lowN_at HLW.out (by omega) (fun h => absurd h hjl)
                rw [HN.out] at HFC
                have HNC : ¬ _ := fun q => by
                  obtain ⟨_, _, h1, _⟩ := HFC.out.1 q
                  exact hjl h1
                have HS : Hid (S = none) := by show _ = _; rw [HSP.out, if_neg HNC]; rfl
                clear HSP HNC
                have e3 : (K == (t.length : Int)) = true := by rw [← HK.out, beq_iff_eq]; omega
                have e0 : ¬ K < (t.length : Int) := by rw [← HK.out]; omega
                have hjj : j = r.length := by omega
                clear HFC HLW HN
                by_cases j0 : j = 0
                · have e1 : (K == ((i : Int) + 1)) = true := by rw [← HK.out, j0, beq_iff_eq]; omega
                  clear j0 hjj
                  rw [HK.out]
                  go_wp2_with fail
                  exact H5.out HS.out _ HKR.out
                have e1 : (K == ((i : Int) + 1)) = false := by rw [← HK.out, beq_eq_false_iff_ne]; omega
                by_cases j20 : 20 < j
                · have e2 : (i : Int) + 21 < K := by rw [← HK.out]; omega
                  clear j0 hjj j20
                  rw [HK.out]
                  go_wp2_with fail
                  exact H5.out HS.out _ HKR.out
                have e2 : ¬ (i : Int) + 21 < K := by rw [← HK.out]; omega
                clear j0 hjj j20
                rw [HK.out]
                go_wp2_with fail
                exact H5.out HS.out _ HKR.out
          · have hgb : (g == 0) = false := by rw [beq_eq_false_iff_ne]; exact hg0
            obtain rfl : g = G := hgG.resolve_left hg0
            rw [hgb]
            simp only [Bool.not_false]
            go_wp2_with fail
            obtain ⟨wo, rfl⟩ : ∃ wo : World, wo = wr := ⟨_, rfl⟩
            go_loop [9] (fun kv => ∃ j : Nat, j ≤ r.length ∧ kv = .int .i64 ((i + 1 + j : Nat) : Int) ∧ Hid (∀ m (hm : m < r.length), m < j → lowB r[m] = true)) (fun kv => t.length - (intOf kv).toNat)
            case atStart => exact ⟨0, Nat.zero_le _, by go_num, fun m hm h => by omega⟩
            case round =>
              obtain ⟨j, hj, rfl, HLW⟩ := hrel
              obtain ⟨K, HK⟩ : ∃ K : Int, Hid (((i + 1 + j : Nat) : Int) = K) := ⟨_, rfl⟩
              have hK0 : 0 ≤ K := by rw [← HK.out]; omega
              have hK1 : K ≤ 1000000 := by rw [← HK.out]; omega
              by_cases hjl : j < r.length
              · have i2 := run_ix (P := Tryz.prog) (t := 9) Tryz.underlying9 t (i + 1 + j) (by omega) ((i + 1 + j : Nat) : Int) rfl
                rw [HAT.out j hjl] at i2
                have h80 := at8_lo r j
                have h81 := at8_hi r j
                have HLOW : Hid (lowB r[j] = (decide (97 ≤ at8 r j) && decide (at8 r j ≤ 122))) := by
                  show _ = _
                  rw [at8_get r j hjl]; rfl
                have HRL := Lib.hid (fun w => rlow_any (at8 r j) w h80 h81)
                have hjt : K < (t.length : Int) := by rw [← HK.out]; omega
                obtain ⟨lb, HLB⟩ : ∃ x, Hid (lowB r[j] = x) := ⟨lowB r[j], rfl⟩
                rw [← HLOW.out, HLB.out] at HRL
                cases lb with
                | true =>
                  have HNX : Hid (∀ m (hm : m < r.length), m < j + 1 → lowB r[m] = true) := fun m hm hmj => by
                    rcases Nat.lt_or_ge m j with q | q
                    · exact HLW.out m hm q
                    · obtain rfl : m = j := by omega
                      exact HLB.out
                  clear HLOW HLB HLW
                  generalize at8 r j = bj at *
                  rw [HK.out] at i2 ⊢
                  go_wp2_with fail
                  refine (HRL.out _).mono ?_
                  rintro e w2 ⟨rfl, rfl⟩
                  go_wp2_with fail
                  go_round
                  case rel => exact ⟨j + 1, by omega, by rw [← HK.out]; go_num, HNX.out⟩
                  case measure => rw [← HK.out]; simp [intOf]; omega
                | false =>
                  have HN : Hid (lowN r = j) := lowN_at HLW.out (by omega) (fun _ => HLB.out)
                  have HBR : Hid (at8 r j = 125 ↔ r[j] = 125) := by
                    show _ ↔ _
                    rw [at8_get r j hjl]; exact u8_int _ 125 (by decide)
                  rw [HN.out] at HFC
                  clear HLOW HN
                  by_cases j0 : j = 0
                  · have HNC : ¬ _ := fun q => absurd (HFC.out.1 q).1 (by omega)
                    have HS : Hid (S = none) := by show _ = _; rw [HSP.out, if_neg HNC]; rfl
                    clear HSP HNC
                    have e1 : (K == ((i : Int) + 1)) = true := by rw [← HK.out, j0, beq_iff_eq]; omega
                    generalize at8 r j = bj at *
                    rw [HK.out] at i2 ⊢
                    clear j0 HLB HLW HFC HBR
                    go_wp2_with fail
                    refine (HRL.out _).mono ?_
                    rintro e w2 ⟨rfl, rfl⟩
                    go_wp2_with fail
                    exact H5.out HS.out _ HKR.out
                  have e1 : (K == ((i : Int) + 1)) = false := by rw [← HK.out, beq_eq_false_iff_ne]; omega
                  by_cases j20 : 20 < j
                  · have HNC : ¬ _ := fun q => absurd (HFC.out.1 q).2.1 (by omega)
                    have HS : Hid (S = none) := by show _ = _; rw [HSP.out, if_neg HNC]; rfl
                    clear HSP HNC
                    have e2 : (i : Int) + 21 < K := by rw [← HK.out]; omega
                    generalize at8 r j = bj at *
                    rw [HK.out] at i2 ⊢
                    clear j0 j20 HLB HLW HFC HBR
                    go_wp2_with fail
                    refine (HRL.out _).mono ?_
                    rintro e w2 ⟨rfl, rfl⟩
                    go_wp2_with fail
                    exact H5.out HS.out _ HKR.out
                  have e2 : ¬ (i : Int) + 21 < K := by rw [← HK.out]; omega
                  have e3 : (K == (t.length : Int)) = false := by rw [beq_eq_false_iff_ne]; omega
                  by_cases hbr : at8 r j = 125
                  · have HC := HFC.out.2 ⟨by omega, by omega, hjl, HBR.out.1 hbr⟩
                    have HB : Hid (before 125 r = j) := before_at (fun m hm h => low_brace (HLW.out m hm h)) hjl (HBR.out.1 hbr)
                    rw [if_pos HC, map_pre2, HB.out, HDD.out j] at HSP
                    have i3 := HSL.out j hj
                    rw [hbr] at i2 HRL
                    clear HC HB HBR HLB HLW HFC j0 j20 hbr
                    generalize at8 r j = bj at *
                    generalize r.take j = X at *
                    rw [HK.out] at i2 i3 ⊢
                    go_wp2_with fail
                    refine (HRL.out _).mono ?_
                    rintro e w2 ⟨rfl, rfl⟩
                    have HBQ := Lib.hid (Blk.new wo 127 #[.string (bs []), .string (bs X), .int .i64 g])
                    have HOA := Lib.hid (HOWN.out.alloc (.cells #[.string (bs []), .string (bs X), .int .i64 g] 127))
                    have HKA := Lib.hid (HKR.out.trans (kept_alloc wo (.cells #[.string (bs []), .string (bs X), .int .i64 g] 127)))
                    go_wp2_with (at_builtin; refine wpList_append_rp _ (by rfl) (.tmp 82) (.tmp 90) (by rfl) w.heap.size _ ps (by rfl) HOA.out ⟨[], X, g⟩ wo.heap.size (by rfl) HBQ.out (by omega) HKA.out.size ?_; intro v5 w5 hown5 hgrow5; rw [List.length_append, List.length_singleton] at hown5; have HO5 := Lib.hid hown5; have HK5 := Lib.hid (HKA.out.trans' (grown_below HOA.out hgrow5 HKA.out.size)); obtain ⟨a5, c5, rfl, -, -, -⟩ := own_cap hown5; clear hown5 hgrow5)
                    go_roundw
                    case rel => exact ⟨f, ps ++ [Rp.mk [] X g], g, g, i + 1 + j + 1, rfl, by rw [hgb]; rfl, by rw [← HK.out]; go_num, (by show World.ownsRow _ _ _ _ _ _ _; rw [List.length_append]; exact HO5.out), by omega, by omega, by rw [List.length_append, List.length_singleton]; omega, by omega, .inr rfl, HSP.out, HK5.out⟩
                    case measure => rw [← HK.out]; simp [intOf]; omega
                  · have HNC : ¬ _ := fun q => by
                      obtain ⟨_, _, h1, h2⟩ := HFC.out.1 q
                      exact hbr (HBR.out.2 h2)
                    have HS : Hid (S = none) := by show _ = _; rw [HSP.out, if_neg HNC]; rfl
                    clear HSP HNC
                    have e4 : (at8 r j == 125) = false := by simpa using hbr
                    have e5 : (at8 r j != 125) = true := by rw [bne, e4]; rfl
                    clear j0 j20 hbr HLB HLW HFC HBR
                    generalize at8 r j = bj at *
                    rw [HK.out] at i2 ⊢
                    go_wp2_with fail
                    refine (HRL.out _).mono ?_
                    rintro e w2 ⟨rfl, rfl⟩
                    go_wp2_with fail
                    exact H5.out HS.out _ HKR.out
              · have HN : Hid (lowN r = j) := lowN_at HLW.out (by omega) (fun h => absurd h hjl)
                rw [HN.out] at HFC
                have HNC : ¬ _ := fun q => by
                  obtain ⟨_, _, h1, _⟩ := HFC.out.1 q
                  exact hjl h1
                have HS : Hid (S = none) := by show _ = _; rw [HSP.out, if_neg HNC]; rfl
                clear HSP HNC
                have e3 : (K == (t.length : Int)) = true := by rw [← HK.out, beq_iff_eq]; omega
                have e0 : ¬ K < (t.length : Int) := by rw [← HK.out]; omega
                have hjj : j = r.length := by omega
                clear HFC HLW HN
                by_cases j0 : j = 0
                · have e1 : (K == ((i : Int) + 1)) = true := by rw [← HK.out, j0, beq_iff_eq]; omega
                  clear j0 hjj
                  rw [HK.out]
                  go_wp2_with fail
                  exact H5.out HS.out _ HKR.out
                have e1 : (K == ((i : Int) + 1)) = false := by rw [← HK.out, beq_eq_false_iff_ne]; omega
                by_cases j20 : 20 < j
                · have e2 : (i : Int) + 21 < K := by rw [← HK.out]; omega
                  clear j0 hjj j20
                  rw [HK.out]
                  go_wp2_with fail
                  exact H5.out HS.out _ HKR.out
                have e2 : ¬ (i : Int) + 21 < K := by rw [← HK.out]; omega
                clear j0 hjj j20
                rw [HK.out]
                go_wp2_with fail
                exact H5.out HS.out _ HKR.out
        · -- a closing brace
          have i0' : ∀ w, (Instr.index 9 (.string (bs t)) (.int .i64 (i : Int))).run Tryz.prog w = .ok (.int .u8 125) w := i0
          rw [rpsP_bad] at HSP
          have HS : Hid (S = none) := HSP.out
          clear i0
          by_cases hg0 : g = 0
          · have hgb : (g == 0) = true := by rw [hg0]; rfl
            rw [hgb]
            go_wp2_with fail
            exact H5.out HS.out _ HKR.out
          · have hgb : (g == 0) = false := by rw [beq_eq_false_iff_ne]; exact hg0
            rw [hgb]
            go_wp2_with fail
            exact H5.out HS.out _ HKR.out
        · -- a group begins
          have i0' : ∀ w, (Instr.index 9 (.string (bs t)) (.int .i64 (i : Int))).run Tryz.prog w = .ok (.int .u8 91) w := i0
          clear i0
          rw [rpsP_open] at HSP
          by_cases hg0 : g = 0
          · rw [if_pos hg0] at HSP
            subst hg0
            have hgb : ((0 : Nat) == 0) = true := rfl
            rw [hgb]
            go_wp2_with fail
            go_roundw
            case rel => exact ⟨f, ps, G + 1, G + 1, i + 1, by go_num, rfl, by go_num, HOWN.out, by omega, by omega, by omega, by omega, .inr rfl, HSP.out, HKR.out⟩
            case measure => simp [intOf]; omega
          · rw [if_neg hg0] at HSP
            have HS : Hid (S = none) := HSP.out
            have hgb : (g == 0) = false := by rw [beq_eq_false_iff_ne]; exact hg0
            rw [hgb]
            go_wp2_with fail
            exact H5.out HS.out _ HKR.out
        · -- a group ends
          have i0' : ∀ w, (Instr.index 9 (.string (bs t)) (.int .i64 (i : Int))).run Tryz.prog w = .ok (.int .u8 93) w := i0
          clear i0
          rw [rpsP_shut] at HSP
          by_cases hg0 : g = 0
          · rw [if_pos hg0] at HSP
            have HS : Hid (S = none) := HSP.out
            have hgb : (g == 0) = true := by rw [hg0]; rfl
            rw [hgb]
            go_wp2_with fail
            exact H5.out HS.out _ HKR.out
          · rw [if_neg hg0] at HSP
            have hgb : (g == 0) = false := by rw [beq_eq_false_iff_ne]; exact hg0
            rw [hgb]
            go_wp2_with fail
            go_roundw
            case rel => exact ⟨f, ps, G, 0, i + 1, rfl, rfl, by go_num, HOWN.out, by omega, by omega, by omega, by omega, .inl rfl, HSP.out, HKR.out⟩
            case measure => simp [intOf]; omega
    · have HDN : Hid (t.drop i = []) := by show _ = _; rw [List.drop_eq_nil_iff]; omega
      rw [HDN.out, rpsP_end] at HSP
      by_cases hg0 : g = 0
      · rw [if_pos hg0] at HSP
        have HS : Hid (S = some ps) := by show _ = _; rw [HSP.out]; simp
        have HP := Lib.hid (Rps.own HOWN.out)
        have hgb : (g == 0) = true := by rw [hg0]; rfl
        rw [hgb]
        go_wp2_with fail
        exact HOK.out ps HS.out _ _ HP.out HKR.out
      · rw [if_neg hg0] at HSP
        have HS : Hid (S = none) := by show _ = _; rw [HSP.out]; rfl
        have hgb : (g == 0) = false := by rw [beq_eq_false_iff_ne]; exact hg0
        rw [hgb]
        obtain ⟨a5, c5, rfl, -, -, -⟩ := own_cap HOWN.out
        go_wp2_with fail
        exact H6.out HS.out _ _ rfl HKR.out
end Go.Proofs.YtafcngdnngpdnaaGreatDoor

/- A map of words that a literal builds: insertion and look-up. No condition. -/
set_option linter.all false
namespace Go.Proofs.YtafcngdnngpdnaaGreatDoor
open Go.RowKit

/-- A word: its key, its singular, its plural. -/
abbrev Word := Bs × Bs × Bs
def entOf (x : Word) (i : Nat) : MapEntry := { key := .string (bs x.1), val := .agg #[.string (bs x.2.1), .string (bs x.2.2)], born := i }
def entsOf (l : List Word) : Array MapEntry := (l.mapIdx fun i x => entOf x i).toArray
/-- The world with a new map of words. -/
def mapW (w : World) (l : List Word) : World := w.alloc (.map (entsOf l) l.length)
theorem mapW_heap (w : World) (l : List Word) : (mapW w l).heap[w.heap.size]? = some (.map (entsOf l) l.length) := by
  unfold mapW; exact heap_alloc_new w _
theorem entsOf_snoc (l : List Word) (x : Word) : entsOf (l ++ [x]) = (entsOf l).push (entOf x l.length) := by
  unfold entsOf; rw [List.mapIdx_append]; simp
theorem bs_beq (a b : Bs) : (bs a == bs b) = (a == b) := by
  show ((bs a).data == (bs b).data) = _
  rw [Bool.eq_iff_iff, beq_iff_eq, beq_iff_eq]
  exact ⟨fun h => by have := congrArg Array.toList h; exact this, fun h => by rw [h]⟩
theorem findNow_none (k : Bs) : ∀ (l : List Word) (i j : Nat), (∀ x ∈ l, x.1 ≠ k) → Instr.findNow .string (.string (bs k)) (l.mapIdx fun i' x => entOf x (i' + i)) j = some none
  | [], _, _, _ => rfl
  | x :: l, i, j, h => by
    have hx : (bs k == bs x.1) = false := by rw [bs_beq, beq_eq_false_iff_ne]; exact fun e => h x (by simp) e.symm
    rw [List.mapIdx_cons]
    unfold Instr.findNow
    simp only [entOf, Instr.sameNow, hx]
    have := findNow_none k l (i + 1) (j + 1) (fun y hy => h y (by simp [hy]))
    simp only [entOf] at this
    rw [← this]
    congr 1
    apply List.ext_getElem?
    intro m
    simp [List.getElem?_mapIdx]
    cases l[m]? <;> simp; omega
theorem findNow_some (k a b : Bs) : ∀ (l : List Word) (i j : Nat), l.find? (fun x => x.1 == k) = some (k, a, b) → ∃ m, Instr.findNow .string (.string (bs k)) (l.mapIdx fun i' x => entOf x (i' + i)) j = some (some (m, .agg #[.string (bs a), .string (bs b)]))
  | [], _, _, h => by cases h
  | x :: l, i, j, h => by
    rw [List.mapIdx_cons]
    unfold Instr.findNow
    by_cases q : x.1 = k
    · have hx : (bs k == bs x.1) = true := by rw [bs_beq, beq_iff_eq]; exact q.symm
      rw [List.find?_cons_of_pos (by simpa using q)] at h
      cases h
      simp only [entOf, Instr.sameNow, hx]
      exact ⟨_, rfl⟩
    · have hx : (bs k == bs x.1) = false := by rw [bs_beq, beq_eq_false_iff_ne]; exact fun e => q e.symm
      rw [List.find?_cons_of_neg (by simpa using q)] at h
      simp only [entOf, Instr.sameNow, hx]
      obtain ⟨m, hm⟩ := findNow_some k a b l (i + 1) (j + 1) h
      refine ⟨m, ?_⟩
      simp only [entOf] at hm
      rw [← hm]
      congr 1
      apply List.ext_getElem?
      intro m
      simp [List.getElem?_mapIdx]
      cases l[m]? <;> simp; omega
theorem entsOf_list (l : List Word) : (entsOf l).toList = l.mapIdx fun i' x => entOf x (i' + 0) := by simp [entsOf]
theorem run_make (w : World) : (Instr.makeMap 143 none).run Tryz.prog w = .ok (.map (some w.heap.size)) (mapW w []) := by
  rw [run_makeMap]; rfl
theorem run_check (e : Bool) (s : ByteArray) (w : World) : (Instr.checkKey e 10000 9 (.string s)).run Tryz.prog w = .ok () w := by
  show (Instr.checkKey e (9999 + 1) 9 (.string s)).run Tryz.prog w = .ok () w
  rw [Instr.checkKey]
  simp only [Sem.run_bind, run_underlying Tryz.underlying9, Result.andThen]
  simp [Sem.run_pure]
theorem run_find_none (w : World) (l : List Word) (k : Bs) (hk : ∀ x ∈ l, x.1 ≠ k) : (Instr.findKey 9 (.string (bs k)) (entsOf l).toList).run Tryz.prog w = .ok none w := by
  unfold Instr.findKey
  simp only [Sem.run_bind, run_underlying Tryz.underlying9, Result.andThen, entsOf_list, findNow_none k l 0 0 hk]
  simp [Sem.run_pure]
theorem run_find_some (w : World) (l : List Word) (k a b : Bs) (hk : l.find? (fun x => x.1 == k) = some (k, a, b)) : ∃ m, (Instr.findKey 9 (.string (bs k)) (entsOf l).toList).run Tryz.prog w = .ok (some (m, .agg #[.string (bs a), .string (bs b)])) w := by
  obtain ⟨m, hm⟩ := findNow_some k a b l 0 0 hk
  refine ⟨m, ?_⟩
  unfold Instr.findKey
  simp only [Sem.run_bind, run_underlying Tryz.underlying9, Result.andThen, entsOf_list, hm]
  simp [Sem.run_pure]
theorem mapW_set (w : World) (l : List Word) (x : Word) : { mapW w l with heap := (mapW w l).heap.setIfInBounds w.heap.size (.map ((entsOf l).push (entOf x l.length)) (l.length + 1)) } = mapW w (l ++ [x]) := by
  unfold mapW
  rw [entsOf_snoc]
  simp only [World.alloc, List.length_append, List.length_cons, List.length_nil]
  congr 1
  apply Array.ext'
  simp [Array.setIfInBounds, Array.toList_push]
theorem run_ins (w : World) (l : List Word) (k a b : Bs) (hk : ∀ x ∈ l, x.1 ≠ k) :
    (Instr.mapUpdate 143 (.map (some w.heap.size)) (.string (bs k)) (.agg #[.string (bs a), .string (bs b)])).run Tryz.prog (mapW w l) = .ok () (mapW w (l ++ [(k, a, b)])) := by
  have hu : Tryz.prog.underlying 143 = some (.map 9 141) := Tryz.underlying143
  unfold Instr.mapUpdate
  simp only [Sem.run_bind, run_underlying hu, Result.andThen]
  simp only [getObj, Sem.run_bind, Sem.run, mapW_heap, Result.andThen, Sem.run_pure, run_check, run_find_none _ l k hk, setObj]
  exact congrArg (Result.ok ()) (mapW_set w l (k, a, b))
/-- The look-up of a word in a map that some later world still holds. -/
theorem run_look (w : World) (r : Nat) (l : List Word) (k a b : Bs) (hm : w.heap[r]? = some (.map (entsOf l) l.length)) (hk : l.find? (fun x => x.1 == k) = some (k, a, b)) :
    (Instr.lookup 143 (.map (some r)) (.string (bs k)) true).run Tryz.prog w = .ok (.tuple #[.agg #[.string (bs a), .string (bs b)], .bool true]) w := by
  have hu : Tryz.prog.underlying 143 = some (.map 9 141) := Tryz.underlying143
  obtain ⟨m, hf⟩ := run_find_some w l k a b hk
  unfold Instr.lookup
  simp only [Sem.run_bind, run_underlying hu, Result.andThen]
  simp only [getObj, Sem.run_bind, Sem.run, hm, Result.andThen, Sem.run_pure, run_check, hf]
  simp [Sem.run_pure]
end Go.Proofs.YtafcngdnngpdnaaGreatDoor

/- A set of texts that a call makes in memory: insertion and look-up. No condition. -/
set_option linter.all false
namespace Go.Proofs.YtafcngdnngpdnaaGreatDoor
open Go.RowKit

def entK (k : Bs) (i : Nat) : MapEntry := { key := .string (bs k), val := .bool true, born := i }
def entsK (ks : List Bs) : Array MapEntry := (ks.mapIdx fun i k => entK k i).toArray
/-- Block m is the map of the keys ks. -/
def MapK (w : World) (m : Nat) (ks : List Bs) : Prop := w.heap[m]? = some (.map (entsK ks) ks.length)
/-- The world with another map of keys in block m. -/
def putK (w : World) (m : Nat) (ks : List Bs) : World := { w with heap := w.heap.setIfInBounds m (.map (entsK ks) ks.length) }
theorem MapK.lt {w : World} {m : Nat} {ks : List Bs} (h : MapK w m ks) : m < w.heap.size := by
  rcases Nat.lt_or_ge m w.heap.size with q | q
  · exact q
  · unfold MapK at h; rw [Array.getElem?_eq_none q] at h; cases h
theorem MapK.only {S : Nat → Prop} {w w' : World} {m : Nat} {ks : List Bs} (h : MapK w m ks) (k : Only S w w') (hs : ¬ S m) : MapK w' m ks := by
  unfold MapK at h ⊢; rw [k.block m (MapK.lt h) hs]; exact h
theorem putK_map (w : World) (m : Nat) (ks : List Bs) (hm : m < w.heap.size) : MapK (putK w m ks) m ks := by
  unfold MapK putK; simp [hm]
theorem putK_only (w : World) (m : Nat) (ks : List Bs) : Only (fun i => i = m) w (putK w m ks) :=
  ⟨rfl, rfl, rfl, by simp [putK], fun k hk hs => by simp [putK, Array.getElem?_setIfInBounds, Ne.symm hs]⟩
theorem putK_size (w : World) (m : Nat) (ks : List Bs) : (putK w m ks).heap.size = w.heap.size := by simp [putK]
theorem entsK_snoc (ks : List Bs) (k : Bs) : entsK (ks ++ [k]) = (entsK ks).push (entK k ks.length) := by
  unfold entsK; rw [List.mapIdx_append]; simp
theorem findK_none (k : Bs) : ∀ (l : List Bs) (i j : Nat), k ∉ l → Instr.findNow .string (.string (bs k)) (l.mapIdx fun i' x => entK x (i' + i)) j = some none
  | [], _, _, _ => rfl
  | x :: l, i, j, h => by
    have hx : (bs k == bs x) = false := by rw [bs_beq, beq_eq_false_iff_ne]; exact fun e => h (by simp [e])
    rw [List.mapIdx_cons]
    unfold Instr.findNow
    simp only [entK, Instr.sameNow, hx]
    have := findK_none k l (i + 1) (j + 1) (fun e => h (by simp [e]))
    simp only [entK] at this
    rw [← this]
    congr 1
    apply List.ext_getElem?
    intro m
    simp [List.getElem?_mapIdx]
    cases l[m]? <;> simp; omega
theorem findK_some (k : Bs) : ∀ (l : List Bs) (i j : Nat), k ∈ l → ∃ m, Instr.findNow .string (.string (bs k)) (l.mapIdx fun i' x => entK x (i' + i)) j = some (some (m, .bool true))
  | [], _, _, h => by cases h
  | x :: l, i, j, h => by
    rw [List.mapIdx_cons]
    unfold Instr.findNow
    by_cases q : x = k
    · have hx : (bs k == bs x) = true := by rw [bs_beq, beq_iff_eq]; exact q.symm
      simp only [entK, Instr.sameNow, hx]
      exact ⟨_, rfl⟩
    · have hx : (bs k == bs x) = false := by rw [bs_beq, beq_eq_false_iff_ne]; exact fun e => q e.symm
      have hl : k ∈ l := by rcases List.mem_cons.1 h with e | e; exact absurd e.symm q; exact e
      simp only [entK, Instr.sameNow, hx]
      obtain ⟨m, hm⟩ := findK_some k l (i + 1) (j + 1) hl
      refine ⟨m, ?_⟩
      simp only [entK] at hm
      rw [← hm]
      congr 1
      apply List.ext_getElem?
      intro m
      simp [List.getElem?_mapIdx]
      cases l[m]? <;> simp; omega
theorem entsK_list (l : List Bs) : (entsK l).toList = l.mapIdx fun i' x => entK x (i' + 0) := by simp [entsK]
theorem runK_none (w : World) (l : List Bs) (k : Bs) (hk : k ∉ l) : (Instr.findKey 9 (.string (bs k)) (entsK l).toList).run Tryz.prog w = .ok none w := by
  unfold Instr.findKey
  simp only [Sem.run_bind, run_underlying Tryz.underlying9, Result.andThen, entsK_list, findK_none k l 0 0 hk]
  simp [Sem.run_pure]
theorem runK_some (w : World) (l : List Bs) (k : Bs) (hk : k ∈ l) : ∃ m, (Instr.findKey 9 (.string (bs k)) (entsK l).toList).run Tryz.prog w = .ok (some (m, .bool true)) w := by
  obtain ⟨m, hm⟩ := findK_some k l 0 0 hk
  refine ⟨m, ?_⟩
  unfold Instr.findKey
  simp only [Sem.run_bind, run_underlying Tryz.underlying9, Result.andThen, entsK_list, hm]
  simp [Sem.run_pure]
theorem zero_bool (w : World) : (zeroValue 4).run Tryz.prog w = .ok (.bool false) w := by kernel_rfl
theorem lookK (w : World) (m : Nat) (ks : List Bs) (k : Bs) (h : MapK w m ks) : (Instr.lookup 90 (.map (some m)) (.string (bs k)) false).run Tryz.prog w = .ok (.bool (ks.contains k)) w := by
  have hu : Tryz.prog.underlying 90 = some (.map 9 4) := Tryz.underlying90
  unfold MapK at h
  unfold Instr.lookup
  simp only [Sem.run_bind, run_underlying hu, Result.andThen]
  by_cases hk : k ∈ ks
  · obtain ⟨j, hf⟩ := runK_some w ks k hk
    have hc : ks.contains k = true := by simpa using hk
    simp only [getObj, Sem.run_bind, Sem.run, h, Result.andThen, Sem.run_pure, run_check, hf, hc]
    simp [Sem.run_pure]
  · have hf := runK_none w ks k hk
    have hc : ks.contains k = false := by simpa using hk
    simp only [getObj, Sem.run_bind, Sem.run, h, Result.andThen, Sem.run_pure, run_check, hf, hc, zero_bool]
    simp [Sem.run_pure]
theorem insK (w : World) (m : Nat) (ks : List Bs) (k : Bs) (h : MapK w m ks) (hk : k ∉ ks) : (Instr.mapUpdate 90 (.map (some m)) (.string (bs k)) (.bool true)).run Tryz.prog w = .ok () (putK w m (ks ++ [k])) := by
  have hu : Tryz.prog.underlying 90 = some (.map 9 4) := Tryz.underlying90
  unfold MapK at h
  unfold Instr.mapUpdate
  simp only [Sem.run_bind, run_underlying hu, Result.andThen]
  simp only [getObj, Sem.run_bind, Sem.run, h, Result.andThen, Sem.run_pure, run_check, runK_none _ ks k hk, setObj]
  refine congrArg (Result.ok ()) ?_
  unfold putK
  rw [entsK_snoc]
  simp [entK]
end Go.Proofs.YtafcngdnngpdnaaGreatDoor
