/- The terms of an index: each once. No condition. -/
import Derived.Test.YtnbhpmleboildaaGreatDoorY20
import Derived.Test.YtnbhpmleboildaaGreatDoorY19
import Derived.Test.YtnbhpmleboildaaGreatDoorY16
import Derived.Test.YtnbhpmleboildaaGreatDoorY15
import Derived.Test.YtnbhpmleboildaaGreatDoorY29
import Derived.Test.YtnbhpmleboildaaGreatDoorY28
import Derived.Test.YtnbhpmleboildaaGreatDoorY30
import Derived.Deep.RegionHeld3
import Derived.BigQuiet

set_option linter.all false
namespace Go.Proofs.YtnbhpmleboildaaGreatDoor
open Go.RowKit

structure OfN (st : OfS) : Prop where
  m1 : ∀ m ∈ st.mains, (m, []) ∈ st.seen
  s1 : ∀ m, ∀ s ∈ st.subs m, (m, s) ∈ st.seen
  mn : st.mains.Nodup
  sn : ∀ m, (st.subs m).Nodup
theorem nodup_snocI {α : Type} {l : List α} {x : α} (h : l.Nodup) (hx : x ∉ l) : (l ++ [x]).Nodup := by
  rw [List.nodup_append]
  exact ⟨h, by simp, fun a ha b hb => by
    rw [List.mem_singleton.1 hb]
    exact fun q => hx (q ▸ ha)⟩
theorem contains_no {l : List KyP} {k : KyP} (h : ¬ l.contains k = true) : k ∉ l := fun q => h (by simpa using q)
theorem OfN.ref {st : OfS} (h : OfN st) (t : KyP) (id : Bs) : OfN (refStep st t id) := by
  obtain ⟨e1, e2, e3⟩ := refStep_mains st t id
  exact ⟨by rw [e1, e3]; exact h.m1, by rw [e2, e3]; exact h.s1, by rw [e1]; exact h.mn, by rw [e2]; exact h.sn⟩
theorem OfN.main {st : OfS} (h : OfN st) (m : Bs) : OfN (mainStep st m) := by
  unfold mainStep
  by_cases q : st.seen.contains (m, []) = true
  · rw [if_pos q]; exact h
  · rw [if_neg q]
    have hm := contains_no q
    refine ⟨fun m' hm' => ?_, fun m' s hs => List.mem_append.2 (.inl (h.s1 m' s hs)), nodup_snocI h.mn (fun r => hm (h.m1 m r)), h.sn⟩
    rcases List.mem_append.1 (show m' ∈ st.mains ++ [m] from hm') with r | r
    · exact List.mem_append.2 (.inl (h.m1 m' r))
    · rw [List.mem_singleton.1 r]; exact List.mem_append.2 (.inr (List.mem_singleton.2 rfl))
theorem OfN.sub {st : OfS} (h : OfN st) (m s : Bs) : OfN (subStep st m s) := by
  unfold subStep
  by_cases q0 : s = []
  · rw [if_pos q0]; exact h
  · rw [if_neg q0]
    by_cases q : st.seen.contains (m, s) = true
    · rw [if_pos q]; exact h
    · rw [if_neg q]
      have hm := contains_no q
      refine ⟨fun m' hm' => List.mem_append.2 (.inl (h.m1 m' hm')), fun m' s' hs' => ?_, h.mn, fun m' => ?_⟩
      · have hs2 : s' ∈ if m' = m then st.subs m ++ [s] else st.subs m' := hs'
        by_cases e : m' = m
        · rw [if_pos e] at hs2
          subst e
          rcases List.mem_append.1 hs2 with r | r
          · exact List.mem_append.2 (.inl (h.s1 m' s' r))
          · rw [List.mem_singleton.1 r]; exact List.mem_append.2 (.inr (List.mem_singleton.2 rfl))
        · rw [if_neg e] at hs2
          exact List.mem_append.2 (.inl (h.s1 m' s' hs2))
      · show (if m' = m then st.subs m ++ [s] else st.subs m').Nodup
        by_cases e : m' = m
        · rw [if_pos e]; exact nodup_snocI (h.sn m) (fun r => hm (h.s1 m s r))
        · rw [if_neg e]; exact h.sn m'
theorem ofAll_nodup (ds : List Inl) : OfN (ofAll ds) := by
  have key : ∀ (ds : List Inl) (st : OfS), OfN st → OfN (ds.foldl ofStep st) := by
    intro ds
    induction ds with
    | nil => intro st h; exact h
    | cons x ds ih =>
      intro st h
      refine ih _ ?_
      unfold ofStep
      cases okM x with
      | false => exact h
      | true => exact ((h.ref _ _).main _).sub _ _
  exact key ds ofS0 ⟨fun m hm => (List.not_mem_nil hm).elim, fun m s hs => (List.not_mem_nil hs).elim, List.nodup_nil, fun m => List.nodup_nil⟩
end Go.Proofs.YtnbhpmleboildaaGreatDoor

/- Terms sorted: they ascend strictly where each stands once. No condition. -/
set_option linter.all false
namespace Go.Proofs.YtnbhpmleboildaaGreatDoor
open Go.RowKit

theorem sortT_asc (c : ColT) (l : List Bs) (hn : l.Nodup) (i : Nat) (a b : Bs) (ha : (sortT c l)[i]? = some a) (hb : (sortT c l)[i + 1]? = some b) : cmpC c a b < 0 := by
  have hp : (sortT c l).Nodup := (sortT_perm c l).symm.nodup hn
  obtain ⟨h1, ea⟩ := List.getElem?_eq_some_iff.1 ha
  obtain ⟨h2, eb⟩ := List.getElem?_eq_some_iff.1 hb
  have hlen : (sortT c l).length = (sortC c l).length := by unfold sortT; rw [List.length_map]
  have hle := sortC_next c l i (by omega)
  have e1 : txt l ((sortC c l)[i]'(by omega)) = a := by rw [← ea]; exact (List.getElem_map (txt l)).symm
  have e2 : txt l ((sortC c l)[i + 1]'(by omega)) = b := by rw [← eb]; exact (List.getElem_map (txt l)).symm
  rw [e1, e2] at hle
  have hne : a ≠ b := by
    intro q
    rw [← ea, ← eb] at q
    exact (List.pairwise_iff_getElem.1 hp i (i + 1) h1 h2 (by omega)) q
  rcases Int.lt_or_eq_of_le hle with q | q
  · exact q
  · exact absurd ((cmpC_zero c a b).1 q) hne
end Go.Proofs.YtnbhpmleboildaaGreatDoor

/- The law IndexSorts. Conditions: lengths that a machine can tell; the tables of the library. -/
set_option linter.all false
namespace Go.Proofs.YtnbhpmleboildaaGreatDoor
open Go.RowKit

/-- Behind a main term and a subterm the entries ascend. -/
def okF (c : ColT) : Option Bs → Option Bs → List Ent → Prop
  | _, _, [] => True
  | m, s, e :: es => (e.lvl = 1 ∧ (∀ m0, m = some m0 → cmpC c m0 e.text < 0) ∧ okF c (some e.text) none es) ∨ (e.lvl = 2 ∧ m.isSome = true ∧ (∀ s0, s = some s0 → cmpC c s0 e.text < 0) ∧ okF c m (some e.text) es)
def ascL (c : ColT) (l : List Bs) : Prop := ∀ (i : Nat) (a b : Bs), l[i]? = some a → l[i + 1]? = some b → cmpC c a b < 0
theorem ascL.tail {c : ColT} {x : Bs} {l : List Bs} (h : ascL c (x :: l)) : ascL c l := fun i a b ha hb => h (i + 1) a b (by simpa using ha) (by simpa using hb)
theorem okF_subs (c : ColT) (r : Bs → List Bs) (m : Bs) (rest : List Ent) (hr : ∀ s, okF c (some m) s rest) : ∀ (l : List Bs) (s : Option Bs), ascL c l → (∀ s0, s = some s0 → ∀ x, l[0]? = some x → cmpC c s0 x < 0) → okF c (some m) s (l.map (fun x => (⟨2, x, r x⟩ : Ent)) ++ rest)
  | [], s, _, _ => hr s
  | x :: l, s, h, h0 => Or.inr ⟨rfl, rfl, fun s0 q => h0 s0 q x rfl, okF_subs c r m rest hr l (some x) h.tail (fun s0 q y hy => by
      cases q
      exact h 0 x y rfl (by simpa using hy))⟩
theorem okF_mains (c : ColT) (st : OfS) (hs : ∀ m, ascL c (sortT c (st.subs m))) : ∀ (l : List Bs) (m s : Option Bs), ascL c l → (∀ m0, m = some m0 → ∀ x, l[0]? = some x → cmpC c m0 x < 0) → okF c m s (l.flatMap (mainE c st))
  | [], _, _, _, _ => trivial
  | x :: l, m, s, h, h0 => by
    rw [List.flatMap_cons]
    show okF c m s ((⟨1, x, st.refs (x, [])⟩ :: (sortT c (st.subs x)).map fun s => (⟨2, s, st.refs (x, s)⟩ : Ent)) ++ l.flatMap (mainE c st))
    rw [List.cons_append]
    refine Or.inl ⟨rfl, fun m0 q => h0 m0 q x rfl, ?_⟩
    refine okF_subs c (fun s => st.refs (x, s)) x (l.flatMap (mainE c st)) (fun s => ?_) (sortT c (st.subs x)) none (hs x) (fun s0 q => (by cases q))
    exact okF_mains c st hs l (some x) s h.tail (fun m0 q y hy => by
      cases q
      exact h 0 x y rfl (by simpa using hy))
theorem ents_asc (c : ColT) (ds : List Inl) : okF c none none (entsIx c (ofAll ds)) := by
  have hn := ofAll_nodup ds
  exact okF_mains c (ofAll ds) (fun m i a b ha hb => sortT_asc c _ (hn.sn m) i a b ha hb) _ none none (fun i a b ha hb => sortT_asc c _ hn.mn i a b ha hb) (fun m0 q => (by cases q))
theorem ents_short (c : ColT) (ds : List Inl) (hs : okS ds) : ∀ e ∈ entsIx c (ofAll ds), e.text.length ≤ 100000 := fun e he => by
  have hb := ofAll_short 100000 ds hs
  obtain ⟨t, -, h2⟩ := entsIx_mem he
  rcases h2 with q | ⟨m, q⟩
  · exact hb.1 _ q
  · exact hb.2 m _ q
theorem drop_at {α : Type} {l : List α} {k : Nat} {x : α} (h : l[k]? = some x) : l.drop k = x :: l.drop (k + 1) := by
  obtain ⟨hk, rfl⟩ := List.getElem?_eq_some_iff.1 h
  exact List.drop_eq_getElem_cons hk

set_option maxRecDepth 100000 in
set_option maxHeartbeats 12800000 in
theorem lisorts_any (N n : Nat) (vM vB vR vO : Value) (ms : List Pr) (xs : List Blo) (c : ColT) (w : World) (hg : Gnd w) (hT : Lib.TabIs Tryz.prog w "internal/strconv.uint64pow10" .u64 Lib.pow10Tab) (hM : Prs w vM ms) (hB : Bls (fun g => g < w.heap.size) N n w vB xs) (hd : FitD0 ms xs) (hc : Col w vR vO c) (hf : FitC c) :
    Calls Tryz.prog 4 #[.agg #[vM, vB], colV vR vO c.ignore] w fun e w' => e = .returned (.bool true) ∧ Kept w w' := by
  have HG := Lib.hid hg
  have HC := Lib.hid hc
  obtain ⟨aM, cM, rfl, lM⟩ := hM.shape
  obtain ⟨aB, cB, rfl, lB⟩ := hB.form
  obtain ⟨aR, cR, rfl, lR⟩ := hc.1.form
  obtain ⟨aO, cO, rfl, lO⟩ := hc.2.form
  have HSM := Lib.hid (fun w' (k : Kept w w') => smdoc_any (fun g => g < w.heap.size) N n (.slice aM ms.length cM) (.slice aB xs.length cB) ms xs w' (hM.kept k) (hB.kept k) hd)
  unfold SmlP at HSM
  have HFW := Lib.hid (fun w' (k : Kept w w') => few_any (.slice aR c.ranks.length cR) (.slice aO c.order.length cO) c w' (hc.kept k) hf)
  unfold ShortP at HFW
  have HAW := Lib.hid (fun w' (k : Kept w w') => awake26_any w' (hg.kept k) (tab_kept hT k))
  have HOF := Lib.hid (fun w' (k : Kept w w') (h2 : SmB xs) (h3 : SmallC c) => of_any N n aM ms.length cM (.slice aB xs.length cB) (.slice aR c.ranks.length cR) (.slice aO c.order.length cO) c xs w' (hg.kept k)
    (hB.sam (S' := fun g => g < w'.heap.size) (Sam.kept k) (fun g q _ => Nat.lt_of_lt_of_le q k.size)) (hc.kept k) h3 (Nat.le_trans h2.len (by decide)) h2.okB h2.okW h2.okS (Nat.le_trans h2.inls (by decide)))
  unfold OfPo at HOF
  have HCP := Lib.hid (fun w' (k : Kept w w') (h3 : SmallC c) a b ha hb => compare_any (.slice aR c.ranks.length cR) (.slice aO c.order.length cO) c a b w' (hc.kept k) h3 ha hb)
  unfold colV at HCP
  have HAS := Lib.hid (ents_asc c (inlsL xs))
  have HSH : Hid (SmB xs → ∀ e ∈ entsIx c (ofAll (inlsL xs)), e.text.length ≤ 100000) := fun h => ents_short c (inlsL xs) h.okS
  have HEL : Hid (SmB xs → (entsIx c (ofAll (inlsL xs))).length ≤ 1000000) := fun h => (ents_okE c (inlsL xs) (Nat.le_trans h.inls (by decide)) h.okS h.id).2
  generalize entsIx c (ofAll (inlsL xs)) = es at *
  have hb1 := (Blk.new w 25 #[.slice aM ms.length cM, .slice aB xs.length cB]).alloc (.cells #[.slice aR c.ranks.length cR, .slice aO c.order.length cO, .string (bs c.ignore)] 28)
  have hc1 := Blk.new (w.alloc (.cells #[.slice aM ms.length cM, .slice aB xs.length cB] 25)) 28 #[.slice aR c.ranks.length cR, .slice aO c.order.length cO, .string (bs c.ignore)]
  have HK0 := Lib.hid ((kept_alloc w (.cells #[.slice aM ms.length cM, .slice aB xs.length cB] 25)).trans (kept_alloc _ (.cells #[.slice aR c.ranks.length cR, .slice aO c.order.length cO, .string (bs c.ignore)] 28)))
  obtain ⟨B, HBB⟩ : ∃ B, Hid (w.heap.size = B) := ⟨_, rfl⟩
  simp only [World.size_alloc, HBB.out] at hb1 hc1
  have HB1 := Lib.hid hb1
  have HC1 := Lib.hid hc1
  clear hb1 hc1 hM hB hc hf hd hT hg
  go_enter Tryz.func4, Tryz.ntmps4
  go_wp2_with fail
  rw [HBB.out]
  generalize World.alloc (World.alloc w _) _ = w0 at *
  refine (HSM.out w0 HK0.out).mono ?_
  rintro e w1 ⟨b, rfl, hb, hk1⟩
  have HK1 := Lib.hid (HK0.out.trans hk1)
  have HB2 := Lib.hid (HB1.out.kept hk1)
  have HC2 := Lib.hid (HC1.out.kept hk1)
  clear hk1 HSM HK0 HB1 HC1
  cases b with
  | false =>
    go_wp2_with fail
    refine (HAW.out w1 HK1.out).mono ?_
    rintro e w2 ⟨rfl, hk2⟩
    have HK2 := Lib.hid (HK1.out.trans hk2)
    clear hk2
    go_wp2_with fail
    (try go_ret)
    exact ⟨rfl, HK2.out⟩
  | true =>
    obtain ⟨-, -, hsm⟩ := hb rfl
    have HSB := Lib.hid hsm
    have q0 := HC2.out.cell 0 _ rfl
    have q1 := HC2.out.cell 1 _ rfl
    have q2 := HC2.out.cell 2 _ rfl
    have qz := HC2.out.lt
    clear hb hsm
    go_wp2_with fail
    refine (HFW.out w1 HK1.out).mono ?_
    rintro e w2 ⟨⟨b, rfl, hb⟩, hk2⟩
    have HK2 := Lib.hid (HK1.out.trans hk2)
    have HB3 := Lib.hid (HB2.out.kept hk2)
    have HC3 := Lib.hid (HC2.out.kept hk2)
    clear hk2 HK1 HB2 HC2 q0 q1 q2 qz HFW
    cases b with
    | false =>
      go_wp2_with fail
      refine (HAW.out w2 HK2.out).mono ?_
      rintro e w3 ⟨rfl, hk3⟩
      have HK3 := Lib.hid (HK2.out.trans hk3)
      clear hk3
      go_wp2_with fail
      (try go_ret)
      exact ⟨rfl, HK3.out⟩
    | true =>
      have HSC := Lib.hid (hb rfl)
      have q0 := HC3.out.cell 0 _ rfl
      have q1 := HC3.out.cell 1 _ rfl
      have q2 := HC3.out.cell 2 _ rfl
      have qz := HC3.out.lt
      have p0 := HB3.out.cell 0 _ rfl
      have p1 := HB3.out.cell 1 _ rfl
      have pz := HB3.out.lt
      clear hb
      go_wp2_with fail
      refine (HOF.out w2 HK2.out HSB.out HSC.out).mono ?_
      rintro e w3 ⟨vE, rfl, hE, hk3⟩
      obtain ⟨aE, cE, rfl, lE⟩ := hE.form
      have HE := Lib.hid hE
      have HK3 := Lib.hid (HK2.out.trans hk3)
      have HC4 := Lib.hid (HC3.out.kept hk3)
      have hel := HEL.out HSB.out
      replace HSH : Hid (∀ e ∈ es, e.text.length ≤ 100000) := HSH.out HSB.out
      replace HCP := Lib.hid (fun w' (k : Kept w w') a b ha hb => HCP.out w' k HSC.out a b ha hb)
      clear hE hk3 HK2 HB3 HC3 q0 q1 q2 qz p0 p1 pz HOF HSB HSC HEL
      go_wp2_with fail
      simp only [mk_bs]
      go_loopw [6, 7, 8, 9, 10] (fun a b f g i wr => ∃ (k : Nat) (m s : Option Bs) (ta tb : Bs), k ≤ es.length ∧ i = .int .i64 k ∧ a = .string (bs ta) ∧ b = .string (bs tb) ∧ f = .bool m.isNone ∧ g = .bool s.isNone ∧ ta.length ≤ 100000 ∧ tb.length ≤ 100000 ∧ Hid (okF c m s (es.drop k)) ∧ Hid (∀ m0, m = some m0 → ta = m0) ∧ Hid (∀ s0, s = some s0 → tb = s0) ∧ Hid (Kept w3 wr)) (fun _ _ _ _ i _ => es.length - (intOf i).toNat)
      case atStart => exact ⟨0, none, none, [], [], Nat.zero_le _, rfl, rfl, rfl, rfl, rfl, by simp, by simp, HAS.out, (fun m0 q => by cases q), (fun s0 q => by cases q), Kept.refl _⟩
      case round =>
        obtain ⟨k, m, s, ta, tb, hk, rfl, rfl, rfl, rfl, rfl, hta, htb, HO, HMA, HSA, HKR⟩ := hrel
        by_cases hlt : k < es.length
        · obtain ⟨x, hx⟩ : ∃ x, es[k]? = some x := ⟨_, List.getElem?_eq_getElem hlt⟩
          have htx := HSH.out x (List.mem_of_getElem? hx)
          have hO := HO.out
          rw [drop_at hx] at hO
          obtain ⟨g, o, cs, rfl, hgg, hgS, -, hcs, ⟨vRf, hcw, -, -⟩, -, -⟩ := RowR.at_ (HE.out.kept5 HKR.out) k x hx
          rw [hcw] at hcs
          have d0 : wr.cell? ⟨g, o + k * 5, none⟩ = some (.int .i64 x.lvl) := by simpa using hcs 0 _ rfl
          have d2 : wr.cell? ⟨g, o + k * 5 + 2, none⟩ = some (.string (bs x.text)) := hcs 2 _ rfl
          have d0d : wr.drew.cell? ⟨g, o + k * 5, none⟩ = some (.int .i64 x.lvl) := d0
          have d2d : wr.drew.cell? ⟨g, o + k * 5 + 2, none⟩ = some (.string (bs x.text)) := d2
          have q0 : wr.drew.cell? ⟨B + 1, 0, none⟩ = some (.slice aR c.ranks.length cR) := (HC4.out.kept HKR.out).cell 0 _ rfl
          have q1 : wr.drew.cell? ⟨B + 1, 1, none⟩ = some (.slice aO c.order.length cO) := (HC4.out.kept HKR.out).cell 1 _ rfl
          have q2 : wr.drew.cell? ⟨B + 1, 2, none⟩ = some (.string (bs c.ignore)) := (HC4.out.kept HKR.out).cell 2 _ rfl
          have qz : B + 1 < wr.drew.heap.size := (HC4.out.kept HKR.out).lt
          have hggd : g < wr.drew.heap.size := hgg
          have HKD : Hid (Kept wr wr.drew) := kept_drewN wr 1
          clear hcs hcw hx HO
          obtain ⟨lvl, text, refs⟩ := x
          simp only at d0 d2 d0d d2d htx hO
          rcases hO with ⟨h1, h2, h3⟩ | ⟨h1, h2, h3, h4⟩
          · simp only at h1 h2 h3
            subst h1
            have H3 := Lib.hid h3
            clear h3
            cases m with
            | none =>
              clear h2 HMA
              simp only [Option.isNone_none]
              go_wp2_with fail
              first | (go_quiet (fail)) | fail
              all_goals
                go_wp2_with fail
                go_roundw
                case rel => exact ⟨k + 1, some text, none, text, tb, by omega, by go_num, rfl, rfl, rfl, rfl, htx, htb, H3.out, (fun m0 q => by cases q; rfl), (fun s0 q => by cases q), HKR.out.trans (kept_drewN wr nq)⟩
                case measure => simp [intOf]; omega
            | some m0 =>
              obtain rfl : ta = m0 := HMA.out m0 rfl
              have hcm := h2 ta rfl
              have HCM := Lib.hid (fun w' (k : Kept w w') => HCP.out w' k ta text hta htx)
              clear h2 HMA
              simp only [Option.isNone_some]
              generalize cmpC c ta text = R at *
              have hkd := HKD.out
              have HK9 := Lib.hid (HK3.out.trans HKR.out)
              have HCC : Hid (∀ w', Kept wr w' → (w'.cell? ⟨B + 1, 0, none⟩ = some (.slice aR c.ranks.length cR) ∧ w'.cell? ⟨B + 1, 1, none⟩ = some (.slice aO c.order.length cO) ∧ w'.cell? ⟨B + 1, 2, none⟩ = some (.string (bs c.ignore)) ∧ w'.cell? ⟨g, o + k * 5, none⟩ = some (.int .i64 1) ∧ w'.cell? ⟨g, o + k * 5 + 2, none⟩ = some (.string (bs text))) ∧ (B + 1 < w'.heap.size ∧ g < w'.heap.size) ∧ Kept wr w') := fun w' q =>
                ⟨⟨(q.cell (p := ⟨B + 1, 0, none⟩) qz).trans q0, (q.cell (p := ⟨B + 1, 1, none⟩) qz).trans q1, (q.cell (p := ⟨B + 1, 2, none⟩) qz).trans q2, (q.cell (p := ⟨g, o + k * 5, none⟩) hgg).trans d0, (q.cell (p := ⟨g, o + k * 5 + 2, none⟩) hgg).trans d2⟩, ⟨Nat.lt_of_lt_of_le qz q.size, Nat.lt_of_lt_of_le hgg q.size⟩, q⟩
              go_wp2_with fail
              ((go_region_held3 (fun w' => (w'.cell? ⟨B + 1, 0, none⟩ = some (.slice aR c.ranks.length cR) ∧ w'.cell? ⟨B + 1, 1, none⟩ = some (.slice aO c.order.length cO) ∧ w'.cell? ⟨B + 1, 2, none⟩ = some (.string (bs c.ignore)) ∧ w'.cell? ⟨g, o + k * 5, none⟩ = some (.int .i64 1) ∧ w'.cell? ⟨g, o + k * 5 + 2, none⟩ = some (.string (bs text))) ∧ (B + 1 < w'.heap.size ∧ g < w'.heap.size) ∧ Kept wr w')
                ((refine HCC.out _ ?_; assumption))
                (first
                  | (go_at_call 12; refine (HCM.out _ (HK9.out.trans hkd)).mono ?_; rintro e wz ⟨rfl, hkz⟩; have kz : Kept wr wz := hkd.trans hkz; clear hkz))))
              all_goals
                obtain ⟨⟨t0, t1, t2, t3, t4⟩, ⟨z0, z1⟩, -⟩ := HCC.out _ kz
                have HKZ := Lib.hid kz
                clear d0 d2 d0d d2d q0 q1 q2 qz HCM HCC hkd
                go_wp2_with fail
                go_roundw
                case rel => exact ⟨k + 1, some text, none, text, tb, by omega, by go_num, rfl, rfl, rfl, rfl, htx, htb, H3.out, (fun m0 q => by cases q; rfl), (fun s0 q => by cases q), HKR.out.trans HKZ.out⟩
                case measure => simp [intOf]; omega
          · simp only at h1 h3 h4
            subst h1
            have H4 := Lib.hid h4
            clear h4
            cases m with
            | none => cases h2
            | some m0 =>
              clear h2
              simp only [Option.isNone_some]
              cases s with
              | none =>
                clear h3 HSA
                simp only [Option.isNone_none]
                go_wp2_with fail
                first | (go_quiet (fail)) | fail
                all_goals
                  go_wp2_with fail
                  go_roundw
                  case rel => exact ⟨k + 1, some m0, some text, ta, text, by omega, by go_num, rfl, rfl, rfl, rfl, hta, htx, H4.out, HMA.out, (fun s0 q => by cases q; rfl), HKR.out.trans (kept_drewN wr nq)⟩
                  case measure => simp [intOf]; omega
              | some s0 =>
                obtain rfl : tb = s0 := HSA.out s0 rfl
                have hcm := h3 tb rfl
                have HCM := Lib.hid (fun w' (k : Kept w w') => HCP.out w' k tb text htb htx)
                clear h3 HSA
                simp only [Option.isNone_some]
                generalize cmpC c tb text = R at *
                have hkd := HKD.out
                have HK9 := Lib.hid (HK3.out.trans HKR.out)
                have HCC : Hid (∀ w', Kept wr w' → (w'.cell? ⟨B + 1, 0, none⟩ = some (.slice aR c.ranks.length cR) ∧ w'.cell? ⟨B + 1, 1, none⟩ = some (.slice aO c.order.length cO) ∧ w'.cell? ⟨B + 1, 2, none⟩ = some (.string (bs c.ignore)) ∧ w'.cell? ⟨g, o + k * 5, none⟩ = some (.int .i64 2) ∧ w'.cell? ⟨g, o + k * 5 + 2, none⟩ = some (.string (bs text))) ∧ (B + 1 < w'.heap.size ∧ g < w'.heap.size) ∧ Kept wr w') := fun w' q =>
                  ⟨⟨(q.cell (p := ⟨B + 1, 0, none⟩) qz).trans q0, (q.cell (p := ⟨B + 1, 1, none⟩) qz).trans q1, (q.cell (p := ⟨B + 1, 2, none⟩) qz).trans q2, (q.cell (p := ⟨g, o + k * 5, none⟩) hgg).trans d0, (q.cell (p := ⟨g, o + k * 5 + 2, none⟩) hgg).trans d2⟩, ⟨Nat.lt_of_lt_of_le qz q.size, Nat.lt_of_lt_of_le hgg q.size⟩, q⟩
                go_wp2_with fail
                ((go_region_held3 (fun w' => (w'.cell? ⟨B + 1, 0, none⟩ = some (.slice aR c.ranks.length cR) ∧ w'.cell? ⟨B + 1, 1, none⟩ = some (.slice aO c.order.length cO) ∧ w'.cell? ⟨B + 1, 2, none⟩ = some (.string (bs c.ignore)) ∧ w'.cell? ⟨g, o + k * 5, none⟩ = some (.int .i64 2) ∧ w'.cell? ⟨g, o + k * 5 + 2, none⟩ = some (.string (bs text))) ∧ (B + 1 < w'.heap.size ∧ g < w'.heap.size) ∧ Kept wr w')
                  ((refine HCC.out _ ?_; assumption))
                  (first
                    | (go_at_call 12; refine (HCM.out _ (HK9.out.trans hkd)).mono ?_; rintro e wz ⟨rfl, hkz⟩; have kz : Kept wr wz := hkd.trans hkz; clear hkz))))
                all_goals
                  obtain ⟨⟨t0, t1, t2, t3, t4⟩, ⟨z0, z1⟩, -⟩ := HCC.out _ kz
                  have HKZ := Lib.hid kz
                  clear d0 d2 d0d d2d q0 q1 q2 qz HCM HCC hkd
                  go_wp2_with fail
                  go_roundw
                  case rel => exact ⟨k + 1, some m0, some text, ta, text, by omega, by go_num, rfl, rfl, rfl, rfl, hta, htx, H4.out, HMA.out, (fun s0 q => by cases q; rfl), HKR.out.trans HKZ.out⟩
                  case measure => simp [intOf]; omega
        · obtain rfl : k = es.length := by omega
          have HK5 := Lib.hid (HK3.out.trans HKR.out)
          clear HO HMA HSA HKR
          go_wp2_with fail
          refine (HAW.out wr HK5.out).mono ?_
          rintro e w5 ⟨rfl, hk5⟩
          have HK6 := Lib.hid (HK5.out.trans hk5)
          clear hk5
          go_wp2_with fail
          (try go_ret)
          exact ⟨rfl, HK6.out⟩
end Go.Proofs.YtnbhpmleboildaaGreatDoor
