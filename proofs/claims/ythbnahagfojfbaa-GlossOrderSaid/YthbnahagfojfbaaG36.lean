/- Compare of publisherref25. Conditions: lengths. -/
import Derived.Test.YthbnahagfojfbaaG35
import Derived.Test.YthbnahagfojfbaaG24
import Derived.Test.YthbnahagfojfbaaG31
import Derived.Test.YthbnahagfojfbaaG34
import Derived.Test.YthbnahagfojfbaaG12
import Derived.Laws.Cover1

set_option linter.all false
namespace Go.Proofs.Ythbnahagfojfbaa
open Go.RowKit

theorem cmpC_B (c : ColT) (a b : Bs) : cmpC c a b = if cmpI (keyI c a) (keyI c b) ≠ 0 then cmpI (keyI c a) (keyI c b) else cmpB a b := rfl
theorem beq_cmp (a b : Bs) : (a == b) = decide (cmpB a b = 0) := by
  by_cases h : a = b
  · subst h; rw [cmpB_self]; simp
  · rw [beq_eq_false_iff_ne.2 h, eq_comm, decide_eq_false_iff_not]
    exact fun q => h (cmpB_zero a b q)
set_option maxRecDepth 100000 in
set_option maxHeartbeats 6400000 in
theorem rcompare_any (vR vO : Value) (c : ColT) (a b : Bs) (w : World) (hv : Col w vR vO c) (hs : SmallC c) (ha : a.length ≤ 1000) (hb : b.length ≤ 1000) :
    Calls Try.prog 7 #[colV vR vO c.ignore, .string (bs a), .string (bs b)] w fun e w' => e = .returned (.int .i64 (cmpC c a b)) ∧ Kept w w' := by
  have HV := Lib.hid hv
  have HKA := Lib.hid (fun w h => rkey_any vR vO c a w h hs ha)
  have HKB := Lib.hid (fun w h => rkey_any vR vO c b w h hs hb)
  have hla := keyI_len hs a
  have hlb := keyI_len hs b
  have HE := Lib.hid (cmpC_B c a b)
  have HRG := Lib.hid (cmpB_range a b)
  have HL1 : Hid (Op.bytesLess a b = decide (cmpB a b < 0)) := less_cmp a b
  have HL2 : Hid ((a == b) = decide (cmpB a b = 0)) := beq_cmp a b
  have HAT := Lib.hid (cmpI_at (keyI c a) (keyI c b))
  have HEN := Lib.hid (cmpI_end (keyI c a) (keyI c b))
  obtain ⟨aR, cR, rfl, lR⟩ := hv.1.form
  obtain ⟨aO, cO, rfl, lO⟩ := hv.2.form
  clear hv
  have HK0 := Lib.hid (kept_alloc w (.cells #[.slice aR c.ranks.length cR, .slice aO c.order.length cO, .string (bs c.ignore)] 26))
  have HB0 := Lib.hid (Blk.new w 26 #[.slice aR c.ranks.length cR, .slice aO c.order.length cO, .string (bs c.ignore)])
  generalize cmpC c a b = R at *
  generalize keyI c a = x at *
  generalize keyI c b = y at *
  generalize cmpB a b = S at *
  unfold IntsP at HKA HKB
  go_enter Try.func7, Try.ntmps7
  go_wp2_with fail
  generalize w.alloc (.cells #[.slice aR c.ranks.length cR, .slice aO c.order.length cO, .string (bs c.ignore)] 26) = w0 at *
  generalize w.heap.size = B at *
  have HCC : Hid (∀ w', Kept w0 w' → (w'.cell? ⟨B, 0, none⟩ = some (.slice aR c.ranks.length cR) ∧ w'.cell? ⟨B, 1, none⟩ = some (.slice aO c.order.length cO) ∧ w'.cell? ⟨B, 2, none⟩ = some (.string (bs c.ignore))) ∧ B < w'.heap.size ∧ Kept w0 w') := fun w' h =>
    ⟨⟨(HB0.out.kept h).cell 0 _ rfl, (HB0.out.kept h).cell 1 _ rfl, (HB0.out.kept h).cell 2 _ rfl⟩, (HB0.out.kept h).lt, h⟩
  obtain ⟨⟨t0, t1, t2⟩, z0, -⟩ := HCC.out w0 (Kept.refl _)
  have hkd : Kept w0 w0.drew := kept_drewN w0 1
  have HV0 := Lib.hid (HV.out.kept HK0.out)
  go_region_held3 (fun w' => (w'.cell? ⟨B, 0, none⟩ = some (.slice aR c.ranks.length cR) ∧ w'.cell? ⟨B, 1, none⟩ = some (.slice aO c.order.length cO) ∧ w'.cell? ⟨B, 2, none⟩ = some (.string (bs c.ignore))) ∧ B < w'.heap.size ∧ Kept w0 w')
    ((refine HCC.out _ ?_; assumption))
    (first
      | (go_at_call_of 18 (Value.string (bs b)); refine (HKB.out _ (HV0.out.kept kA)).mono ?_; rintro e w4 ⟨vB, rfl, hiB, hk4⟩; have kB : Kept w0 w4 := kA.trans hk4; have HIA2 := Lib.hid (HIA.out.kept hk4); have HIB2 := Lib.hid hiB; obtain ⟨aB, cB, rfl, lB⟩ := hiB.form; clear hk4 hiB)
      | (go_at_call_of 18 (Value.string (bs a)); refine (HKA.out _ (HV0.out.kept hkd)).mono ?_; rintro e w3 ⟨vA, rfl, hiA, hk3⟩; have kA : Kept w0 w3 := hkd.trans hk3; have HIA := Lib.hid hiA; obtain ⟨aA, cA, rfl, lA⟩ := hiA.form; clear hk3 hiA))
  all_goals
    have HKZ := Lib.hid (HK0.out.trans kB)
    clear HCC kA kB t0 t1 t2 z0 hkd HIA HB0 HV HV0 HKA HKB
    obtain ⟨D, HD⟩ : ∃ D, Hid (cmpI x y = D) := ⟨_, rfl⟩
    rw [HD.out] at HE
    go_wp2_with fail
    go_loopw [9] (fun i wr => ∃ k : Nat, k ≤ x.length ∧ k ≤ y.length ∧ i = .int .i64 k ∧ Hid (cmpI (x.drop k) (y.drop k) = D) ∧ Hid (Kept w4 wr)) (fun i _ => x.length - (intOf i).toNat)
    case atStart => exact ⟨0, Nat.zero_le _, Nat.zero_le _, rfl, HD.out, Kept.refl _⟩
    case round =>
      obtain ⟨k, hk, hk2, rfl, HA, HKR⟩ := hrel
      by_cases hlt : k < x.length
      · obtain ⟨p, hp⟩ : ∃ z, x[k]? = some z := ⟨_, List.getElem?_eq_getElem hlt⟩
        obtain ⟨g, o, rfl, hg, d0⟩ := (HIA2.out.kept HKR.out).cell_of k p hp
        by_cases hlt2 : k < y.length
        · obtain ⟨q, hq⟩ : ∃ z, y[k]? = some z := ⟨_, List.getElem?_eq_getElem hlt2⟩
          obtain ⟨g2, o2, rfl, hg2, d1⟩ := (HIB2.out.kept HKR.out).cell_of k q hq
          have HS : Hid (D = if p < q then -1 else if q < p then 1 else cmpI (x.drop (k + 1)) (y.drop (k + 1))) := by
            show _ = _
            rw [← HA.out, HAT.out k hlt hlt2]
            obtain ⟨_, rfl⟩ := List.getElem?_eq_some_iff.1 hp
            obtain ⟨_, rfl⟩ := List.getElem?_eq_some_iff.1 hq
            rfl
          clear hp hq
          by_cases h1 : p < q
          · rw [if_pos h1] at HS
            have HR : Hid (R = -1) := by show _ = _; rw [HE.out, HS.out, if_pos (by decide)]
            go_wp2_with fail
            go_region
            all_goals
              go_wp2_with fail
              go_ret
              exact ⟨ret_int HR.out.symm, HKZ.out.trans (HKR.out.trans (kept_drewN _ _))⟩
          · rw [if_neg h1] at HS
            have hd1 := fun n => (((kept_drewN wr n).cell (p := ⟨g, o + k, none⟩) hg).trans d0 : (wr.drewN n).cell? ⟨g, o + k, none⟩ = some (.int .i64 p))
            have hd2 := fun n => (((kept_drewN wr n).cell (p := ⟨g2, o2 + k, none⟩) hg2).trans d1 : (wr.drewN n).cell? ⟨g2, o2 + k, none⟩ = some (.int .i64 q))
            by_cases h2 : q < p
            · rw [if_pos h2] at HS
              have HR : Hid (R = 1) := by show _ = _; rw [HE.out, HS.out, if_pos (by decide)]
              go_wp2_with fail
              go_region
              all_goals
                go_wp2_with fail
                go_region
                all_goals
                  go_wp2_with fail
                  go_ret
                  exact ⟨ret_int HR.out.symm, HKZ.out.trans ((HKR.out.trans (kept_drewN _ _)).trans (kept_drewN _ _))⟩
            · rw [if_neg h2] at HS
              go_wp2_with fail
              go_region
              all_goals
                go_wp2_with fail
                go_region
                all_goals
                  go_wp2_with fail
                  go_roundw
                  case rel => exact ⟨k + 1, by omega, by omega, by go_num, HS.out.symm, (HKR.out.trans (kept_drewN _ _)).trans (kept_drewN _ _)⟩
                  case measure => simp [intOf]; omega
        · have HS : Hid (D = 1) := by
            show _ = _
            rw [← HA.out, HEN.out k hk hk2 (fun q => hlt2 q.2), if_neg (by omega), if_pos (by omega)]
          have HR : Hid (R = 1) := by show _ = _; rw [HE.out, HS.out, if_pos (by decide)]
          have h1 : ¬ x.length < y.length := by omega
          have h2 : ((x.length : Int) == y.length) = false := by rw [beq_eq_false_iff_ne]; omega
          have h3 : y.length < x.length := by omega
          clear hp
          go_wp2_with fail
          go_ret
          exact ⟨ret_int HR.out.symm, HKZ.out.trans HKR.out⟩
      · have HS : Hid (D = if x.length < y.length then -1 else 0) := by
          show _ = _
          rw [← HA.out, HEN.out k hk hk2 (fun q => hlt q.1)]
          by_cases q : x.length < y.length
          · rw [if_pos q, if_pos q]
          · rw [if_neg q, if_neg q, if_neg (by omega)]
        by_cases h1 : x.length < y.length
        · rw [if_pos h1] at HS
          have HR : Hid (R = -1) := by show _ = _; rw [HE.out, HS.out, if_pos (by decide)]
          go_wp2_with fail
          go_ret
          exact ⟨ret_int HR.out.symm, HKZ.out.trans HKR.out⟩
        · rw [if_neg h1] at HS
          have HR : Hid (R = S) := by show _ = _; rw [HE.out, HS.out, if_neg (by simp)]
          have h2 : ((x.length : Int) == y.length) = true := by rw [beq_iff_eq]; omega
          have h3 : ¬ y.length < x.length := by omega
          have HRG2 : Hid (S = -1 ∨ S = 0 ∨ S = 1) := HRG.out
          clear HE HS
          rcases HRG2.out with h | h | h
          all_goals
            subst h
            have hl1 := HL1.out
            have hl2 := HL2.out
            simp only [show decide ((-1 : Int) < 0) = true from rfl, show decide ((0 : Int) < 0) = false from rfl, show decide ((1 : Int) < 0) = false from rfl] at hl1
            simp only [show decide ((-1 : Int) = 0) = false from rfl, show decide ((0 : Int) = 0) = true from rfl, show decide ((1 : Int) = 0) = false from rfl] at hl2
            have hl3 := (show Op.bytesLess (bs a).toList (bs b).toList = Op.bytesLess a b by rw [bs_toList, bs_toList]).trans hl1
            have hl4 := (show ((bs a).toList == (bs b).toList) = (a == b) by rw [bs_toList, bs_toList]).trans hl2
            clear HL1 HL2
            go_wp2_with fail
            go_ret
            exact ⟨ret_int HR.out.symm, HKZ.out.trans HKR.out⟩
end Go.Proofs.Ythbnahagfojfbaa

/- What the law GlossOrder leans on: its documents in plain Lean; three rows that grow side by side. Conditions: names that differ. -/
set_option linter.all false
namespace Go.Proofs.Ythbnahagfojfbaa
open Go.RowKit Go.Sort

def kLast : Bs := [108, 97, 115, 116]
def tsI (ns : List Bs) : List (Bs × Bs) := ns.map fun n => (n, 105 :: n)
def tsF (ns : List Bs) : List (Bs × Bs) := tsI ns ++ [(kLast, [122])]
def tsR (ns : List Bs) : List (Bs × Bs) := (kLast, [122]) :: (tsI ns).reverse
theorem tsI_fst (ns : List Bs) : (tsI ns).map (·.1) = ns := by unfold tsI; rw [List.map_map]; exact List.map_id ns
theorem tsF_fst (ns : List Bs) : (tsF ns).map (·.1) = ns ++ [kLast] := by unfold tsF; rw [List.map_append, tsI_fst]; rfl
theorem tsR_perm (ns : List Bs) : (tsR ns).Perm (tsF ns) := by
  unfold tsR tsF
  exact (List.perm_append_singleton _ _).symm.trans ((List.reverse_perm _).append_right _)
theorem tsI_len (ns : List Bs) : (tsI ns).length = ns.length := List.length_map _
theorem fineF {ns : List Bs} {ts : List (Bs × Bs)} (hp : ts.Perm (tsF ns)) (hn : (ns ++ [kLast]).Nodup) (hl : ns.length ≤ 12) (ha : ∀ n ∈ ns, n ≠ [] ∧ n.length ≤ 800) : FineD (some (ns, kLast)) (some (none, ts)) := by
  have h2 : ((tsF ns).map (·.2)).Nodup := by
    have e : (tsF ns).map (·.2) = ns.map (fun n => 105 :: n) ++ [[122]] := by unfold tsF tsI; rw [List.map_append, List.map_map]; rfl
    rw [e, List.nodup_append]
    refine ⟨?_, by simp, fun a h b hb => ?_⟩
    · refine List.pairwise_map.2 ((List.nodup_append.1 hn).1.imp fun h e => h (List.cons.inj e).2)
    · obtain ⟨n, _, rfl⟩ := List.mem_map.1 h
      rw [List.mem_singleton] at hb; subst hb
      intro e; cases e
  refine ⟨?_, hn, ?_, ?_, ?_, ?_, ?_, fun u hu => by cases hu⟩
  · intro s hs
    rcases List.mem_append.1 (show s ∈ ns ++ [kLast] from hs) with q | q
    · have := (ha s q).2; omega
    · rw [List.mem_singleton] at q; subst q; simp [kLast]
  · show (ns ++ [kLast]).length ≤ _
    rw [List.length_append, List.length_singleton]; omega
  · intro t ht
    have ht : t ∈ tsF ns := hp.mem_iff.1 (show t ∈ ts from ht)
    unfold tsF at ht
    rcases List.mem_append.1 ht with q | q
    · obtain ⟨n, h, rfl⟩ := List.mem_map.1 q
      exact ⟨(ha n h).1, by simp, by have := (ha n h).2; show n.length ≤ _; omega, by have := (ha n h).2; show n.length + 1 ≤ _; omega⟩
    · rw [List.mem_singleton] at q; subst q; simp [kLast]
  · show (ts.map (·.1)).Nodup
    exact (hp.map _).nodup_iff.2 (by rw [tsF_fst]; exact hn)
  · show (ts.map (·.2)).Nodup
    exact (hp.map _).nodup_iff.2 h2
  · show ts.length ≤ _
    rw [hp.length_eq]; unfold tsF; rw [List.length_append, tsI_len, List.length_singleton]; omega
theorem hallF {ns : List Bs} {ts : List (Bs × Bs)} (hp : ts.Perm (tsF ns)) : ∀ s ∈ nsU (some (ns, kLast)), s ∈ (tsG (some (none, ts))).map (·.1) := by
  intro s hs
  show s ∈ ts.map (·.1)
  rw [(hp.map _).mem_iff, tsF_fst]; exact hs
/-- What Fill makes of either document. -/
theorem resF (c : ColT) {ns : List Bs} (hn : (ns ++ [kLast]).Nodup) : ∃ ts' : List (Bs × Bs), ts'.Perm (tsF ns) ∧ srtL (cfN c) ((tsF ns).map bT) = ts'.map bT ∧
    ∀ ts : List (Bs × Bs), ts.Perm (tsF ns) → ∀ ks, (∀ nm, nm ∈ ks ↔ (nm ∈ (tsG (some (none, ts))).map (·.1) ∧ nm ∈ nsU (some (ns, kLast)))) →
      resL (idsE (tsG (some (none, ts)))) (cfN c) (some (ns, kLast)) (keepG ks (some (none, ts))) = [bloP (lnkL (idsE (tsF ns)) ns kLast), glosL none ts'] := by
  obtain ⟨ts', h1, h2⟩ := srt_back c (tsF ns)
  refine ⟨ts', h2, h1, fun ts hp ks hk => ?_⟩
  have hnF : ((tsF ns).map (·.1)).Nodup := by rw [tsF_fst]; exact hn
  have hnT : (ts.map (·.1)).Nodup := (hp.map _).nodup_iff.2 hnF
  have e1 : keepG ks (some (none, ts)) = some (none, ts) := by
    show some ((none : Option Bs), ts.filter fun t => ks.contains t.1) = _
    have : ts.filter (fun t => ks.contains t.1) = ts := List.filter_eq_self.2 fun t ht => by
      rw [List.contains_iff_mem]
      have hm : t.1 ∈ ts.map (·.1) := List.mem_map.2 ⟨t, ht, rfl⟩
      refine (hk t.1).2 ⟨hm, ?_⟩
      rw [(hp.map _).mem_iff, tsF_fst] at hm; exact hm
    rw [this]
  have e2 : idsE (tsG (some (none, ts))) = idsE (tsF ns) := funext fun nm => idsE_same hp hnT nm
  rw [e1, e2]
  show [bloP (lnkL (idsE (tsF ns)) ns kLast)] ++ [bloG ([] ++ srtL (cfN c) (ts.map bT))] = _
  rw [srt_same c hp hnT, h1]; rfl
/-- The order is strict. -/
theorem asc_of (c : ColT) {ns : List Bs} (hn : (ns ++ [kLast]).Nodup) {ts' : List (Bs × Bs)} (hp : ts'.Perm (tsF ns)) (hs : srtL (cfN c) ((tsF ns).map bT) = ts'.map bT) (i : Nat) (a b : Bs × Bs) (ha : ts'[i]? = some a) (hb : ts'[i + 1]? = some b) : cmpC c a.1 b.1 < 0 := by
  have h1 := srt_sorted c ((tsF ns).map bT) i (i + 1) (bT a) (bT b) (Nat.lt_succ_self i) (by rw [hs, List.getElem?_map, ha]; rfl) (by rw [hs, List.getElem?_map, hb]; rfl)
  rw [defName_t, defName_t] at h1
  have hnT : (ts'.map (·.1)).Nodup := (hp.map _).nodup_iff.2 (by rw [tsF_fst]; exact hn)
  rcases Int.lt_or_eq_of_le h1 with q | q
  · exact q
  · exfalso
    have e := (cmpC_zero c _ _).1 q
    have hi := (List.getElem?_eq_some_iff.1 ha)
    have hj := (List.getElem?_eq_some_iff.1 hb)
    obtain ⟨hi1, rfl⟩ := hi
    obtain ⟨hj1, rfl⟩ := hj
    have := (List.pairwise_iff_getElem.1 hnT) i (i + 1) (by rw [List.length_map]; omega) (by rw [List.length_map]; omega) (Nat.lt_succ_self i)
    rw [List.getElem_map, List.getElem_map] at this
    exact this e
section
variable {α : Type} {R : (Nat → Prop) → World → List Value → α → Prop} {k : Nat} {A A' : Nat → Prop} {base : Nat} {e : TypeId} {w w' : World} {vo v vt : Value} {ts xs : List α}
theorem OutG.others (hR : ReadK R) (h : OutG R k A base e w vt ts) (hg : w.grownBy w' vo.ownBlock) (hA : ∀ g, A g → vo.ownBlock ≠ some g) (hne : ∀ g, vt.ownBlock = some g → vo.ownBlock ≠ some g) (hA' : ∀ g, g < w.heap.size → A g → A' g) : OutG R k A' base e w' vt ts :=
  (OutG.mono (A' := fun g => A g ∧ A' g) hR h (fun g hlt q => ⟨q, hA' g hlt q⟩)).only hR (Only.grown hg) (fun g _ q _ q2 => hA g q.1 q2.symm) (fun g q q2 => hne g q q2.symm) |>.mono hR (fun g _ q => q.2)
theorem OutG.many {g : Nat} {css : List (List Value)} (hb : Blk w g e css.flatten.toArray) (hk : ∀ cs ∈ css, cs.length = k) (hl : css.length = xs.length) (hm : xs.length ≤ maxLen) (hg : base ≤ g) (hx : ∀ (j : Nat) (cs : List Value) (x : α), css[j]? = some cs → xs[j]? = some x → R (fun i => A i ∧ g ≠ i) w cs x) : OutG R k A base e w (.slice (some ⟨g, 0, none⟩) xs.length xs.length) xs := by
  have hf := flat_len css hk
  refine ⟨css, hl, hk, ⟨by rw [hf, hl], .inr ⟨g, xs.length, css.flatten.toArray, rfl, hg, hb, Nat.le_refl _, hm, ?_, ?_⟩⟩, fun j c y hc hy => ?_⟩
  · rw [List.size_toArray, hf, hl]
  · rw [List.toList_toArray, ← hl, ← hf, List.take_length]
  · have e1 : (fun i => A i ∧ (Value.slice (some ⟨g, 0, none⟩) xs.length xs.length).ownBlock ≠ some i) = (fun i => A i ∧ g ≠ i) := by
      funext i; simp [Value.ownBlock]
    rw [e1]; exact hx j c y hc hy
/-- Elements of another row are appended; where the new row lies. -/
theorem wpList_append_outz {P : Program} (hR : ReadK R) {ops : Array Oper} {rest : List Oper} {o : Oper} {a : Act} {Q : Exit → Act → World → Prop} (hgd : o.guard = none) (s x : Operand) (t : TypeId)
    (ho : o.op = .call { callee := .builtin .append, args := #[s, x], argTypes := #[t, t] })
    (i : TypeInfo) (z : Value) (bytes : Nat) (ht : P.underlying t = some (.slice e)) (hi : P.info? e = some i) (hz : i.zero = some z) (hsize : i.size = k) (hby : i.bytes = bytes) (hzs : z.cells.size = k) (hsz : 0 < k)
    {ys : List α} (hs : a.eval s = v) (hown : OutG R k A base e w v xs) (g0 : Nat) (m0 cap0 : Nat) (hx : a.eval x = .slice (some ⟨g0, 0, none⟩) m0 cap0) (hys : OutG R k (fun g => A g ∧ v.ownBlock ≠ some g) base e w (.slice (some ⟨g0, 0, none⟩) m0 cap0) ys) (hym : 0 < ys.length)
    (h63 : xs.length + ys.length ≤ maxLen) (hbytes : (xs.length + ys.length) * bytes ≤ 140737488355328) (hbase : base ≤ w.heap.size) (H : Nat) (hH : w.heap.size = H)
    (h : ∀ g cap w', OutG R k A base e w' (.slice (some ⟨g, 0, none⟩) (xs.length + ys.length) cap) (xs ++ ys) → w.grownBy w' v.ownBlock → (v.ownBlock = some g ∨ g = H) → wpList P ops Q rest (a.put o.dst (.slice (some ⟨g, 0, none⟩) (xs.length + ys.length) cap)) w') : wpList P ops Q (o :: rest) a w := by
  obtain ⟨css, h1, h2, ho2, h4⟩ := hown
  obtain ⟨css2, k1, k2, ko2, k4⟩ := hys
  have hm : m0 = ys.length := by
    obtain ⟨a', c, hv, _⟩ := own_cap ko2
    exact (Value.slice.inj hv).2.1
  subst hm
  have k4' : ∀ (j : Nat) (cs : List Value) (x : α), css2[j]? = some cs → ys[j]? = some x → R (fun g => A g ∧ v.ownBlock ≠ some g) w cs x := fun j cs x hc hx => hR.sam (k4 j cs x hc hx) (fun _ _ _ => rfl) (fun g _ q => q.1)
  obtain ⟨a', c, hv, _, _, h3⟩ := own_cap ko2
  obtain ⟨e1, _, _⟩ := Value.slice.inj hv
  obtain ⟨g', e2, _, hgg, hcell⟩ := h3 hym
  have : g0 = g' := by rw [e2] at e1; cases e1; rfl
  subst this
  have hone := css_one (S := fun g => A g ∧ v.ownBlock ≠ some g) hR css2 k1 k4'
  subst hH
  refine wpList_append_lies w hgd s x t ho base e i z k bytes ht hi hz hsize hby hzs hsz v xs.length css.flatten hs ho2 ⟨g0, 0, none⟩ ys.length cap0 css2.flatten hx (by rw [flat_len css2 k2, k1]) (fun j u hu => by rw [addr_plus, Nat.zero_add]; exact hcell j u hu) hone hym h63 hbytes hbase _ rfl ?_
  intro g cap w' q1 q2 q3 q4
  exact h g cap w' (OutG.app hR h1 h2 h4 k1 k2 k4' (by simpa using q1) q2 q3) q2 q3
/-- The same as one step of a region that draws its order. -/
theorem step_append_outz {P : Program} (hR : ReadK R) {ops : Array Oper} {o : Oper} {a : Act} {K : Act → World → Prop} {Q : Exit → Act → World → Prop} {E : Prop} (hgd : o.guard = none) (s x : Operand) (t : TypeId)
    (ho : o.op = .call { callee := .builtin .append, args := #[s, x], argTypes := #[t, t] })
    (i : TypeInfo) (z : Value) (bytes : Nat) (ht : P.underlying t = some (.slice e)) (hi : P.info? e = some i) (hz : i.zero = some z) (hsize : i.size = k) (hby : i.bytes = bytes) (hzs : z.cells.size = k) (hsz : 0 < k)
    {ys : List α} (hs : a.eval s = v) (hown : OutG R k A base e w v xs) (g0 : Nat) (m0 cap0 : Nat) (hx : a.eval x = .slice (some ⟨g0, 0, none⟩) m0 cap0) (hys : OutG R k (fun g => A g ∧ v.ownBlock ≠ some g) base e w (.slice (some ⟨g0, 0, none⟩) m0 cap0) ys) (hym : 0 < ys.length)
    (h63 : xs.length + ys.length ≤ maxLen) (hbytes : (xs.length + ys.length) * bytes ≤ 140737488355328) (hbase : base ≤ w.heap.size) (H : Nat) (hH : w.heap.size = H)
    (h : ∀ g cap w', OutG R k A base e w' (.slice (some ⟨g, 0, none⟩) (xs.length + ys.length) cap) (xs ++ ys) → w.grownBy w' v.ownBlock → (v.ownBlock = some g ∨ g = H) → K (a.put o.dst (.slice (some ⟨g, 0, none⟩) (xs.length + ys.length) cap)) w') :
    if Region.wanted o (yielded ops a.tmps) = true then Oper.wp P o a w K Q else E := by
  obtain ⟨css, h1, h2, ho2, h4⟩ := hown
  obtain ⟨css2, k1, k2, ko2, k4⟩ := hys
  have hm : m0 = ys.length := by
    obtain ⟨a', c, hv, _⟩ := own_cap ko2
    exact (Value.slice.inj hv).2.1
  subst hm
  have k4' : ∀ (j : Nat) (cs : List Value) (x : α), css2[j]? = some cs → ys[j]? = some x → R (fun g => A g ∧ v.ownBlock ≠ some g) w cs x := fun j cs x hc hx => hR.sam (k4 j cs x hc hx) (fun _ _ _ => rfl) (fun g _ q => q.1)
  obtain ⟨a', c, hv, _, _, h3⟩ := own_cap ko2
  obtain ⟨e1, _, _⟩ := Value.slice.inj hv
  obtain ⟨g', e2, _, hgg, hcell⟩ := h3 hym
  have : g0 = g' := by rw [e2] at e1; cases e1; rfl
  subst this
  have hone := css_one (S := fun g => A g ∧ v.ownBlock ≠ some g) hR css2 k1 k4'
  subst hH
  refine step_append_lies w hgd s x t ho base e i z k bytes ht hi hz hsize hby hzs hsz v xs.length css.flatten hs ho2 ⟨g0, 0, none⟩ ys.length cap0 css2.flatten hx (by rw [flat_len css2 k2, k1]) (fun j u hu => by rw [addr_plus, Nat.zero_add]; exact hcell j u hu) hone hym h63 hbytes hbase _ rfl ?_
  intro g cap w' q1 q2 q3 q4
  exact h g cap w' (OutG.app hR h1 h2 h4 k1 k2 k4' (by simpa using q1) q2 q3) q2 q3
end
theorem add_bsG {P : Program} (a b x : Bs) (n m : Nat) (hx : a ++ b = x) (ha : a.length ≤ n) (hb : b.length ≤ m) (h : n + m ≤ 9223372036854775807) : (∀ w, (Op.stringOp .add (bs a) (bs b)).run P w = .ok (.string (bs x)) w) ∧ x.length ≤ n + m := by
  subst hx
  refine ⟨fun w => ?_, by rw [List.length_append]; omega⟩
  rw [run_string_add_sum w (bs a) (bs b) (by simp only [bs_size]; omega), bs_append]
/-- Three rows that grow side by side. -/
structure Rel3 (C : Nat) (wr : World) (t b u : Value) (ts : List (Bs × Bs)) (us : List Inl) : Prop where
  T : OutG (BloK 2 0) 11 (fun g => C < g ∧ b.ownBlock ≠ some g ∧ u.ownBlock ≠ some g) (C + 1) 37 wr t (ts.map bT)
  B : OutG (BloK 2 0) 11 (fun g => C < g ∧ t.ownBlock ≠ some g ∧ u.ownBlock ≠ some g) (C + 1) 37 wr b (ts.reverse.map bT)
  U : OutG (InlK 1) 10 (fun g => C < g ∧ t.ownBlock ≠ some g ∧ b.ownBlock ≠ some g) (C + 1) 41 wr u us
  tb : ∀ g, t.ownBlock = some g → b.ownBlock ≠ some g
  tu : ∀ g, t.ownBlock = some g → u.ownBlock ≠ some g
  bu : ∀ g, b.ownBlock = some g → u.ownBlock ≠ some g
  em : b = .slice none 0 0 ∧ ts = [] ∨ 0 < ts.length
theorem Rel3.kept {C : Nat} {wr w' : World} {t b u : Value} {ts : List (Bs × Bs)} {us : List Inl} (h : Rel3 C wr t b u ts us) (k : Kept wr w') : Rel3 C w' t b u ts us :=
  ⟨h.T.kept (bloK 2 0) k, h.B.kept (bloK 2 0) k, h.U.kept (inlK 1) k, h.tb, h.tu, h.bu, h.em⟩
theorem new_own {g m c : Nat} {v : Value} {w : World} {x : Nat} (hat : v.ownBlock = some g ∨ g = w.heap.size) (h : (Value.slice (some ⟨g, 0, none⟩) m c).ownBlock = some x) : v.ownBlock = some x ∨ x = w.heap.size := by
  rw [← own_some _ _ _ _ h]; exact hat
/-- After the first row's append: the other two. -/
theorem Rel3.afterT {C g m c : Nat} {w w' : World} {t b u : Value} {ts : List (Bs × Bs)} {us : List Inl} (h : Rel3 C w t b u ts us) (hg : w.grownBy w' t.ownBlock) (hat : t.ownBlock = some g ∨ g = w.heap.size) :
    OutG (BloK 2 0) 11 (fun i => C < i ∧ (Value.slice (some ⟨g, 0, none⟩) m c).ownBlock ≠ some i ∧ u.ownBlock ≠ some i) (C + 1) 37 w' b (ts.reverse.map bT) ∧
    OutG (InlK 1) 10 (fun i => C < i ∧ (Value.slice (some ⟨g, 0, none⟩) m c).ownBlock ≠ some i ∧ b.ownBlock ≠ some i) (C + 1) 41 w' u us ∧
    (∀ i, (Value.slice (some ⟨g, 0, none⟩) m c).ownBlock = some i → b.ownBlock ≠ some i) ∧ (∀ i, (Value.slice (some ⟨g, 0, none⟩) m c).ownBlock = some i → u.ownBlock ≠ some i) := by
  refine ⟨h.B.others (bloK 2 0) hg (fun i q => q.2.1) (fun i q q2 => h.tb i q2 q) (fun i hlt q => ⟨q.1, fun q2 => (new_own hat q2).elim q.2.1 (fun q3 => by omega), q.2.2⟩),
    h.U.others (inlK 1) hg (fun i q => q.2.1) (fun i q q2 => h.tu i q2 q) (fun i hlt q => ⟨q.1, fun q2 => (new_own hat q2).elim q.2.1 (fun q3 => by omega), q.2.2⟩), fun i q q2 => ?_, fun i q q2 => ?_⟩
  · rcases new_own hat q with q3 | q3
    · exact h.tb i q3 q2
    · have := (h.B.blk i q2).2; omega
  · rcases new_own hat q with q3 | q3
    · exact h.tu i q3 q2
    · have := (h.U.blk i q2).2; omega
end Go.Proofs.Ythbnahagfojfbaa

/- Regions that draw their order, by facts about the values that have been made, each of which stands while others are made; one last store. No condition. -/
set_option linter.all false
namespace Go.Proofs.Ythbnahagfojfbaa
open Go.RowKit

def upd (V : Nat → Value) (i : Nat) (v : Value) : Nat → Value := fun j => if j = i then v else V j
theorem upd_same (V : Nat → Value) (i : Nat) (v : Value) : upd V i v i = v := if_pos rfl
theorem upd_ne {V : Nat → Value} {i j : Nat} {v : Value} (h : j ≠ i) : upd V i v j = V j := if_neg h
/-- The act in which all slots have their values. -/
def putAll (D : Nat → Option Nat) (V : Nat → Value) : Nat → Act → Act
  | 0, a => a
  | n + 1, a => (putAll D V n a).put (D n) (V n)
theorem putAll_defers (D : Nat → Option Nat) (V : Nat → Value) : ∀ (n : Nat) (a : Act), (putAll D V n a).defers = a.defers
  | 0, _ => rfl
  | n + 1, a => by
    show ((putAll D V n a).put (D n) (V n)).defers = _
    rw [← putAll_defers D V n a]; cases D n <;> rfl
theorem put_size' (a : Act) (d : Option Nat) (v : Value) : (a.put d v).tmps.size = a.tmps.size := by cases d <;> simp [Act.put]
theorem putAll_size (D : Nat → Option Nat) (V : Nat → Value) : ∀ (n : Nat) (a : Act), (putAll D V n a).tmps.size = a.tmps.size
  | 0, _ => rfl
  | n + 1, a => by show ((putAll D V n a).put (D n) (V n)).tmps.size = _; rw [put_size', putAll_size D V n a]
theorem putAll_at {D : Nat → Option Nat} {V : Nat → Value} : ∀ (n : Nat) (a : Act) (i d : Nat), i < n → D i = some d → (∀ j, j < n → D j = some d → j = i) → d < a.tmps.size → (putAll D V n a).tmps[d]? = some (V i)
  | 0, _, _, _, h, _, _, _ => absurd h (Nat.not_lt_zero _)
  | n + 1, a, i, d, h, hd, hu, hs => by
    show ((putAll D V n a).put (D n) (V n)).tmps[d]? = _
    by_cases q : i = n
    · subst q
      rw [hd, put_at _ _ _ _ (by rw [putAll_size]; exact hs), if_pos rfl]
    · have ih := putAll_at (V := V) n a i d (by omega) hd (fun j hj => hu j (by omega)) hs
      cases hn : D n with
      | none => exact ih
      | some e =>
        have hne : d ≠ e := fun x => q (hu n (by omega) (by rw [hn, x])).symm
        by_cases he : e < (putAll D V n a).tmps.size
        · rw [put_at _ _ _ _ he, if_neg hne]; exact ih
        · show ((putAll D V n a).tmps.setIfInBounds e (V n))[d]? = _
          rw [Array.getElem?_setIfInBounds_ne (fun x => hne x.symm)]; exact ih
theorem putAll_rest {D : Nat → Option Nat} {V : Nat → Value} : ∀ (n : Nat) (a : Act) (s : Nat), (∀ j, j < n → D j ≠ some s) → (putAll D V n a).tmps[s]? = a.tmps[s]?
  | 0, _, _, _ => rfl
  | n + 1, a, s, h => by
    show ((putAll D V n a).put (D n) (V n)).tmps[s]? = _
    have ih := putAll_rest (V := V) n a s (fun j hj => h j (by omega))
    cases hn : D n with
    | none => exact ih
    | some e =>
      have hne : s ≠ e := fun x => h n (by omega) (by rw [hn, x])
      show ((putAll D V n a).tmps.setIfInBounds e (V n))[s]? = _
      rw [Array.getElem?_setIfInBounds_ne (fun x => hne x.symm)]; exact ih
theorem slots_all {n : Nat} {D : Nat → Option Nat} {V : Nat → Value} {L : Array Bool} {a0 a : Act} (S : Slots n D V L a0 a) (hinj : ∀ i j d, i < n → j < n → D i = some d → D j = some d → j = i) (hlt : ∀ i d, i < n → D i = some d → d < a0.tmps.size) (hon : ∀ i, i < n → On L i) : a = putAll D V n a0 := by
  refine act_ext (by rw [putAll_defers]; exact S.defers) (fun s => ?_)
  by_cases h : ∃ i, i < n ∧ D i = some s
  · obtain ⟨i, hi, hd⟩ := h
    rw [S.val i s hi hd (hon i hi), putAll_at n a0 i s hi hd (fun j hj e => hinj i j s hi hj hd e) (hlt i s hi hd)]
  · rw [S.rest s (fun i hi e => h ⟨i, hi, e⟩), putAll_rest n a0 s (fun i hi e => h ⟨i, hi, e⟩)]
section
variable {P : Program} {ops : Array Oper} {Q : Exit → Act → World → Prop}
/-- What an operation does, where it puts it. -/
def OpAt (ops : Array Oper) (i : Nat) (op : Op) (d : Option Nat) : Prop := ∃ o, ops[i]? = some o ∧ o.op = op ∧ o.guard = none ∧ o.dst = d
/-- The slots of a region, one for each operation. -/
def dstB (ops : Array Oper) (i : Nat) : Option Nat := (ops[i]?).bind (·.dst)
def edgB (o : Oper) (j : Nat) : Bool := o.after.any fun e => Region.binds .any e && e.on == j
/-- A region's edges and slots as the law wants them: s its last store, `ea` what goes ahead of it, `dep` what each leans on. -/
def facB (ops : Array Oper) (n s : Nat) (ea dep : Array (List Nat)) (m : Nat) : Bool :=
  ops.size == n && decide (s < n) && acB ops &&
  ((List.range n).all fun i => match ops[i]? with
    | none => false
    | some o => ((dep.getD i []).all fun j => j != i && decide (j < n) && o.after.any fun e => Region.binds .any e && (e.on == j || (dep.getD e.on []).contains j)) &&
      (match o.dst with | none => true | some d => decide (d < m) && (List.range n).all fun j => j == i || dstB ops j != some d)) &&
  ((ea.getD 0 []).all fun i => decide (i < s) && (match ops[s]? with | none => false | some o => edgB o i))
theorem facB_ac {n s m : Nat} {ea dep : Array (List Nat)} (h : facB ops n s ea dep m = true) : ops.size = n ∧ s < n ∧ acB ops = true := by
  unfold facB at h
  simp only [Bool.and_eq_true, beq_iff_eq, decide_eq_true_eq] at h
  exact ⟨h.1.1.1.1, h.1.1.1.2, h.1.1.2⟩
theorem facB_ops {n s m : Nat} {ea dep : Array (List Nat)} (h : facB ops n s ea dep m = true) {i : Nat} {o : Oper} (ho : ops[i]? = some o) :
    (∀ j ∈ dep.getD i [], j ≠ i ∧ j < n ∧ ∃ e ∈ o.after, Region.binds .any e = true ∧ (e.on = j ∨ j ∈ dep.getD e.on [])) ∧ (∀ d, o.dst = some d → d < m ∧ ∀ j, j < n → dstB ops j = some d → j = i) := by
  have hn := (facB_ac h).1
  unfold facB at h
  simp only [Bool.and_eq_true] at h
  have h1 := List.all_eq_true.1 h.1.2 i (List.mem_range.2 (by rw [← hn]; exact (Array.getElem?_eq_some_iff.1 ho).1))
  rw [ho] at h1
  simp only [Bool.and_eq_true] at h1
  obtain ⟨h2, h3⟩ := h1
  refine ⟨fun j hj => ?_, fun d hd => ?_⟩
  · have := List.all_eq_true.1 h2 j hj
    simp only [Bool.and_eq_true, bne_iff_ne, decide_eq_true_eq] at this
    obtain ⟨⟨q1, q2⟩, q3⟩ := this
    obtain ⟨k, hk, q⟩ := Array.any_eq_true.1 q3
    simp only [Bool.and_eq_true, Bool.or_eq_true, beq_iff_eq, List.contains_iff_mem] at q
    exact ⟨q1, q2, _, Array.getElem_mem hk, q.1, q.2⟩
  · rw [hd] at h3
    simp only [Bool.and_eq_true, decide_eq_true_eq] at h3
    refine ⟨h3.1, fun j hj hdj => ?_⟩
    have := List.all_eq_true.1 h3.2 j (List.mem_range.2 hj)
    simp only [Bool.or_eq_true, beq_iff_eq, bne_iff_ne] at this
    rcases this with q | q
    · exact q
    · exact absurd hdj q
theorem facB_ea {n s m : Nat} {ea dep : Array (List Nat)} (h : facB ops n s ea dep m = true) {i : Nat} (hi : i ∈ ea.getD 0 []) {o : Oper} (ho : ops[s]? = some o) : i < s ∧ ∃ e ∈ o.after, Region.binds .any e = true ∧ e.on = i := by
  unfold facB at h
  simp only [Bool.and_eq_true] at h
  have h1 := List.all_eq_true.1 h.2 i hi
  rw [ho] at h1
  simp only [Bool.and_eq_true, decide_eq_true_eq] at h1
  obtain ⟨q1, q2⟩ := h1
  unfold edgB at q2
  obtain ⟨k, hk, q⟩ := Array.any_eq_true.1 q2
  simp only [Bool.and_eq_true, beq_iff_eq] at q
  exact ⟨q1, _, Array.getElem_mem hk, q.1, q.2⟩
/-- Between the operations: the values that have been made, and what is known of them. -/
def FacI (n s : Nat) (D : Nat → Option Nat) (ea : List Nat) (dep : Nat → List Nat) (F : Nat → (Nat → Value) → World → Prop) (G : World → Prop) (Fin : (Nat → Value) → World → Prop) (a0 : Act) (L : Array Bool) (a : Act) (w : World) : Prop :=
  L.size = n ∧ ∃ V, Slots n D V L a0 a ∧ (∀ j, j < n → On L j → ∀ i ∈ dep j, On L i) ∧ (¬ On L s → G w ∧ ∀ j, j < n → On L j → F j V w) ∧ (On L s → Fin V w ∧ (∀ i ∈ ea, On L i) ∧ ∀ j, j < n → On L j → j ≠ s → j ∉ ea → F j V w)
/-- A region that draws its order: s is its last store; what need not go ahead of it makes values alone. -/
theorem wp_region_facts {id : Nat} {a : Act} {w : World} (n s m : Nat) (ea dep : Array (List Nat)) (hc : facB ops n s ea dep m = true) (hm : P.follows .mixedOrders = true) (hz : m ≤ a.tmps.size)
    (F : Nat → (Nat → Value) → World → Prop) (G : World → Prop) (St : World → World → Prop) (Fin : (Nat → Value) → World → Prop)
    (hloc : ∀ j, j < n → ∀ V V' w, (∀ i, i = j ∨ i ∈ dep.getD j [] → V i = V' i) → F j V w → F j V' w)
    (hfin : ∀ V V' w, (∀ i, i = s ∨ i ∈ ea.getD 0 [] → V i = V' i) → Fin V w → Fin V' w)
    (hst : ∀ j, j < n → j ≠ s → ∀ V w w', F j V w → St w w' → F j V w')
    (hfree : ∀ j, j < n → j ≠ s → j ∉ ea.getD 0 [] → ∀ V w w', F j V w → F j V w')
    (hG0 : G w.drew)
    (hstep : ∀ i, i < n → i ≠ s → ∀ V a' w', G w' → (∀ j ∈ dep.getD i [], F j V w' ∧ ∀ d, dstB ops j = some d → a'.eval (.tmp d) = V j) → (∀ t, (∀ j, j < n → dstB ops j ≠ some t) → a'.eval (.tmp t) = a.eval (.tmp t)) →
      ∀ K : Act → World → Prop, (∀ v w'', St w' w'' → G w'' → F i (upd V i v) w'' → K (a'.put (dstB ops i) v) w'') → wpOp P ops Q i K a' w')
    (hlast : ∀ V a' w', G w' → (∀ j ∈ ea.getD 0 [], F j V w' ∧ ∀ d, dstB ops j = some d → a'.eval (.tmp d) = V j) → (∀ t, (∀ j, j < n → dstB ops j ≠ some t) → a'.eval (.tmp t) = a.eval (.tmp t)) →
      ∀ K : Act → World → Prop, (∀ v w'', Fin (upd V s v) w'' → K (a'.put (dstB ops s) v) w'') → wpOp P ops Q s K a' w')
    (hafter : ∀ i, i < n → i ≠ s → i ∉ ea.getD 0 [] → ∀ V a' w', Fin V w' → (∀ j ∈ dep.getD i [], (j ≠ s → j ∉ ea.getD 0 [] → F j V w') ∧ ∀ d, dstB ops j = some d → a'.eval (.tmp d) = V j) →
      ∀ K : Act → World → Prop, (∀ v, F i (upd V i v) w' → K (a'.put (dstB ops i) v) w') → wpOp P ops Q i K a' w')
    (hend : ∀ V w', Fin V w' → (∀ j, j < n → j ≠ s → j ∉ ea.getD 0 [] → F j V w') → Q .normal (putAll (dstB ops) V n a) w') :
    (Code.region id ops true).wp P Q a w := by
  obtain ⟨hn, hs, hac⟩ := facB_ac hc
  have hO : ∀ i, i < n → ∃ o, ops[i]? = some o := fun i hi => ⟨_, Array.getElem?_eq_getElem (by rw [hn]; exact hi)⟩
  have hdo : ∀ {i : Nat} {o : Oper}, ops[i]? = some o → dstB ops i = o.dst := fun h => by unfold dstB; rw [h]; rfl
  have hinj : ∀ i j d, i < n → j < n → dstB ops i = some d → dstB ops j = some d → j = i := fun i j d hi hj h1 h2 => by
    obtain ⟨o, ho⟩ := hO i hi
    exact ((facB_ops hc ho).2 d (by rw [← hdo ho]; exact h1)).2 j hj h2
  have hlt : ∀ i d, i < n → dstB ops i = some d → d < a.tmps.size := fun i d hi h1 => by
    obtain ⟨o, ho⟩ := hO i hi
    exact Nat.lt_of_lt_of_le ((facB_ops hc ho).2 d (by rw [← hdo ho]; exact h1)).1 hz
  subst hn
  generalize hD : dstB ops = D at *
  generalize hE : ea.getD 0 [] = E at *
  refine wp_region_inv (FacI ops.size s D E (fun i => dep.getD i []) F G Fin a) hm (ac_of hac) ?_ ?_ ?_
  · have hno : ∀ i, ¬ On (Array.replicate ops.size false) i := fun i => not_on_start ops.size i
    exact ⟨by simp, fun _ => undef, Slots.start _ _ _ _ _, fun j _ h => absurd h (hno j), fun _ => ⟨hG0, fun j _ h => absurd h (hno j)⟩, fun h => absurd h (hno s)⟩
  · intro L a1 w1 ⟨hsz, V, S, _, _, h4⟩ hall
    have hon : ∀ i, i < ops.size → On L i := fun i hi => by
      have := hall i hi
      unfold On
      rw [Array.getD_eq_getD_getElem?, Array.getElem?_eq_getElem (by omega)] at this ⊢
      exact this
    rw [slots_all S hinj hlt hon]
    exact hend V w1 (h4 (hon s hs)).1 fun j hj q1 q2 => (h4 (hon s hs)).2.2 j hj (hon j hj) q1 q2
  · intro L a1 w1 i ⟨hsz, V, S, h2, h3, h4⟩ hi hn hed
    obtain ⟨o, ho⟩ := hO i hi
    have n0 := not_on hn
    have hdon : ∀ j ∈ dep.getD i [], On L j ∧ j ≠ i ∧ j < ops.size := fun j hj => by
      obtain ⟨q1, q0, e, he, hb, q⟩ := (facB_ops hc ho).1 j hj
      have h5 := hed o ho e he hb
      refine ⟨?_, q1, q0⟩
      rcases q with rfl | q
      · exact h5
      · have hlt2 : e.on < ops.size := by
          have := ac_of hac i o ho e he hb; omega
        exact h2 e.on hlt2 h5 j q
    have hev : ∀ j, j < ops.size → On L j → ∀ d, D j = some d → a1.eval (.tmp d) = V j := fun j hj h d hd => S.eval j d hj hd h
    have hrest : ∀ t, (∀ j, j < ops.size → D j ≠ some t) → a1.eval (.tmp t) = a.eval (.tmp t) := fun t ht => S.ext t ht
    have hput : ∀ v, Slots ops.size D (upd V i v) (L.setIfInBounds i true) a (a1.put (D i) v) := fun v => S.put i hi (by omega) (fun j d hj h5 h6 => hinj i j d hi hj h5 h6) (fun d hd => hlt i d hi hd) v (fun _ => (upd_same V i v).symm) (fun j _ hj => (upd_ne (fun e => n0 (by rw [← e]; exact hj))).symm)
    have hcl : ∀ j, j < ops.size → On (L.setIfInBounds i true) j → ∀ k ∈ dep.getD j [], On (L.setIfInBounds i true) k := fun j hj h k hk => by
      rcases on_set h with rfl | q
      · exact on_mono (hdon k hk).1
      · exact on_mono (h2 j hj q k hk)
    have hFl : ∀ v w2 j, j < ops.size → On L j → F j V w2 → F j (upd V i v) w2 := fun v w2 j hj q h6 => by
      refine hloc j hj V (upd V i v) w2 (fun k hk => (upd_ne ?_).symm) h6
      rintro rfl
      rcases hk with rfl | hk
      · exact n0 q
      · exact n0 (h2 j hj q k hk)
    by_cases his : i = s
    · subst his
      obtain ⟨hG, hFs⟩ := h3 n0
      have hall : ∀ j ∈ E, j < ops.size ∧ On L j ∧ j ≠ i := fun j hj => by
        obtain ⟨q, e, he, hb, rfl⟩ := facB_ea hc (by rw [hE]; exact hj) ho
        exact ⟨by omega, hed o ho e he hb, by omega⟩
      refine hlast V a1 w1 hG (fun j hj => ⟨hFs j (hall j hj).1 (hall j hj).2.1, hev j (hall j hj).1 (hall j hj).2.1⟩) hrest _ (fun v w2 k1 => ?_)
      refine ⟨by rw [Array.size_setIfInBounds]; exact hsz, upd V i v, hput v, hcl, fun h => absurd (on_same (by omega)) h, fun _ => ⟨k1, fun j hj => on_mono (hall j hj).2.1, fun j hj h q1 q2 => ?_⟩⟩
      rcases on_set h with q | q
      · exact absurd q q1
      · exact hFl v w2 j hj q (hfree j hj q1 q2 V w1 w2 (hFs j hj q))
    · have hso : On (L.setIfInBounds i true) s → On L s := fun h => by
        rcases on_set h with q | q
        · exact absurd q.symm his
        · exact q
      by_cases hos : On L s
      · obtain ⟨hF, hEa, hFr⟩ := h4 hos
        have hiE : i ∉ E := fun q => n0 (hEa i q)
        refine hafter i hi his hiE V a1 w1 hF (fun j hj => ⟨fun q1 q2 => hFr j (hdon j hj).2.2 (hdon j hj).1 q1 q2, hev j (hdon j hj).2.2 (hdon j hj).1⟩) _ (fun v k1 => ?_)
        refine ⟨by rw [Array.size_setIfInBounds]; exact hsz, upd V i v, hput v, hcl, fun h => absurd (on_mono hos) h, fun _ => ⟨hfin V _ w1 (fun k hk => (upd_ne ?_).symm) hF, fun j hj => on_mono (hEa j hj), fun j hj h q1 q2 => ?_⟩⟩
        · rintro rfl
          rcases hk with q | q
          · exact his q
          · exact hiE q
        · rcases on_set h with rfl | q
          · exact k1
          · exact hFl v w1 j hj q (hFr j hj q q1 q2)
      · obtain ⟨hG, hFs⟩ := h3 hos
        refine hstep i hi his V a1 w1 hG (fun j hj => ⟨hFs j (hdon j hj).2.2 (hdon j hj).1, hev j (hdon j hj).2.2 (hdon j hj).1⟩) hrest _ (fun v w2 k1 k2 k3 => ?_)
        refine ⟨by rw [Array.size_setIfInBounds]; exact hsz, upd V i v, hput v, hcl, fun _ => ⟨k2, fun j hj h => ?_⟩, fun h => absurd (hso h) hos⟩
        rcases on_set h with rfl | q
        · exact k3
        · exact hFl v w2 j hj q (hst j hj (fun e => hos (e ▸ q)) V w1 w2 (hFs j hj q) k1)
end
end Go.Proofs.Ythbnahagfojfbaa
