/- The text of a style without an error is read as that style, in plain Lean. No condition. -/
import Derived.Test.YtafcngdnngpdnaaGreatDoorK35
import Derived.Test.YtafcngdnngpdnaaGreatDoorK41
import Derived.Test.YtafcngdnngpdnaaGreatDoorK40
import Derived.Test.YtafcngdnngpdnaaGreatDoorK36
import Derived.Test.YtafcngdnngpdnaaGreatDoorK37

set_option linter.all false
namespace Go.Proofs.YtafcngdnngpdnaaGreatDoor
open Go.RowKit

theorem lnB_no10 {x : Bs} (h : lnB x = true) : (10 : UInt8) ∉ x := by
  unfold lnB at h
  rw [Bool.and_eq_true] at h
  simpa using h.2
theorem splE_no10 {t : Bs} (h : splE t = 0) : (10 : UInt8) ∉ t := by
  unfold splE at h
  split at h
  · cases h
  · rename_i q
    exact lnB_no10 (by cases e : lnB t <;> simp_all)
theorem smallB_no {l : Bs} {n : Int} {m : Bs} (h : smallB l n m = true) {c : UInt8} (hl : lowB c = false) (hm : m.contains c = false) : c ∉ l := by
  unfold smallB at h
  rw [Bool.and_eq_true, Bool.and_eq_true] at h
  intro hc
  have := List.all_eq_true.1 h.2.2 c hc
  rw [hl, hm] at this
  cases this
theorem split_cover (c : UInt8) : ∀ (n : Nat) (t : Bs), t.length ≤ n → ∀ b ∈ t, b = c ∨ ∃ x ∈ splitC c t, b ∈ x := by
  intro n
  induction n with
  | zero =>
    intro t ht b hb
    obtain rfl : t = [] := List.length_eq_zero_iff.1 (by omega)
    cases hb
  | succ n ih =>
    intro t ht b hb
    rcases index_one t c with ⟨_, h⟩ | ⟨i, _, hi, hni, he⟩
    · rw [splitC_none c t h]
      exact .inr ⟨t, by simp, hb⟩
    · rw [he] at hb
      rcases List.mem_append.1 hb with q | q
      · have e := congrArg (splitC c) he
        rw [splitC_at c _ _ hni] at e
        exact .inr ⟨t.take i, by rw [e]; exact List.mem_cons_self, q⟩
      · rcases List.mem_cons.1 q with q | q
        · exact .inl q
        · rcases ih _ (by rw [List.length_drop]; omega) b q with r | ⟨x, hx, hbx⟩
          · exact .inl r
          · have e := congrArg (splitC c) he
            rw [splitC_at c _ _ hni] at e
            exact .inr ⟨x, by rw [e]; exact List.mem_cons_of_mem _ hx, hbx⟩
theorem srtE_no10 {l : Bs} (h : srtE l = 0) : (10 : UInt8) ∉ l := by
  intro hc
  unfold srtE at h
  split at h
  · rename_i q; rw [q] at hc; cases hc
  · split at h
    · cases h
    · rename_i q
      have hall : (splitC 32 l).all srtK = true := by cases e : (splitC 32 l).all srtK <;> simp_all
      rcases split_cover 32 l.length l (Nat.le_refl _) 10 hc with r | ⟨x, hx, hb⟩
      · cases r
      · have := List.all_eq_true.1 hall x hx
        rcases srt_some this with rfl | rfl | rfl | rfl <;> exact absurd hb (by decide)
theorem entA_zero : ∀ (es : List Pr) (ks : List Bs), entA ks es = 0 → ∀ p ∈ es, (p.1 = [42] ∨ smallB p.1 20 [] = true) ∧ splE p.2 = 0
  | [], _, _, _, hp => by cases hp
  | e :: es, ks, h, p, hp => by
    rw [entA_cons] at h
    split at h
    · cases h
    rename_i q1
    split at h
    · cases h
    split at h
    · rename_i q; exact absurd h q
    rename_i q3
    rcases List.mem_cons.1 hp with rfl | hp
    · refine ⟨?_, Decidable.byContradiction fun q => q3 q⟩
      cases e1 : (p.1 == [42]) with
      | true => exact .inl (by simpa using e1)
      | false =>
        cases e2 : smallB p.1 20 [] with
        | true => exact .inr rfl
        | false => exact absurd ⟨e1, e2⟩ q1
    · exact entA_zero es _ h p hp
theorem dec_no10 (n : Nat) (h : n < 100) : (10 : UInt8) ∉ Lib.decDigits n := fun hc => by
  have := (decB_back (dec_fin ⟨n, h⟩).2).2.2.2
  have h2 := List.all_eq_true.1 this 10 hc
  exact absurd h2 (by decide)
theorem before_app (c : UInt8) : ∀ (m r : Bs), c ∉ m → before c (m ++ c :: r) = m.length
  | [], r, _ => by unfold before; simp
  | b :: m, r, h => by
    have hb : b ≠ c := fun e => h (by simp [e])
    have := before_app c m r (fun e => h (by simp [e]))
    unfold before at this ⊢
    rw [List.cons_append, List.takeWhile_cons, if_pos (by simpa using hb), List.length_cons, this, List.length_cons]
theorem entR_back (p : Pr) (h : (58 : UInt8) ∉ p.1) : entR (entL p) = some p := by
  obtain ⟨a, b⟩ := p
  have e : entL (a, b) = kEntry ++ (a ++ 58 :: b) := by unfold entL; simp [List.append_assoc]
  have hb := before_app 58 a b h
  rw [e, entR_cut (cutP_app kEntry _), hb, if_pos (by simp)]
  congr 1
  rw [List.take_left, show a.length + 1 = a.length + 1 from rfl, ← List.drop_drop, List.drop_left]
  rfl
theorem hd_at (y : StyT) (i : Nat) (v : Bs) (hi : (valsL y)[i]? = some v) : hdGood (styLn y) i = vOk i v ∧ hdV (styLn y) i = v := by
  have hl : i < 9 := (List.getElem?_eq_some_iff.1 hi).1
  have e : (styLn y)[i]? = some (headsL.getD i [] ++ v) := by
    unfold styLn
    rw [List.getElem?_append_left (show i < (headL y).length from hl)]
    unfold headL
    rw [List.getElem?_zipWith, hi]
    have : headsL[i]? = some (headsL.getD i []) := by
      rw [List.getD_eq_getElem?_getD, List.getElem?_eq_getElem (show i < headsL.length from hl)]; rfl
    rw [this]
  exact hdGood_some e (cutP_app _ _)
theorem sty_drop (y : StyT) : (styLn y).drop 9 = y.entries.map entL := by
  unfold styLn
  exact List.drop_left' (show (headL y).length = 9 from rfl)
theorem most_fin {y : StyT} (h1 : 1 ≤ y.most) (h2 : y.most ≤ 32) : decB (Lib.decDigits y.most.toNat) = true ∧ dcN (Lib.decDigits y.most.toNat) = y.most.toNat := ⟨(dec_fin ⟨y.most.toNat, by omega⟩).2, dcN_fin ⟨y.most.toNat, by omega⟩⟩
theorem sty_no10 {y : StyT} (h : styE y = 0) : ∀ x ∈ styLn y, (10 : UInt8) ∉ x := by
  obtain ⟨-, h2, h3, h4, h5, h6, h7, h8, h9, h10⟩ := styE_parts h
  have hc : splE y.cite = 0 ∧ splE y.bare = 0 := by
    unfold citE at h4
    split at h4
    · rename_i q; exact absurd h4 q
    rename_i q
    refine ⟨Decidable.byContradiction q, ?_⟩
    generalize freeB _ _ = b at h4
    cases b
    · rw [if_pos rfl] at h4; cases h4
    · rw [if_neg (by simp)] at h4; exact h4
  have v1 : (10 : UInt8) ∉ y.name := smallB_no h2 (by decide) (by decide)
  have v2 : (10 : UInt8) ∉ yesL y.numeric := by unfold yesL; split <;> decide
  have v3 := srtE_no10 h3
  have v4 := splE_no10 hc.1
  have v5 := splE_no10 hc.2
  have v6 := lnB_no10 h5
  have v7 := lnB_no10 h6
  have v8 := lnB_no10 h7
  have v9 := dec_no10 y.most.toNat (by omega)
  intro x hx
  unfold styLn at hx
  rcases List.mem_append.1 hx with hx | hx
  · unfold headL headsL valsL at hx
    simp only [List.zipWith_cons_cons, List.zipWith_nil_right, List.mem_cons, List.not_mem_nil, or_false] at hx
    rcases hx with rfl | rfl | rfl | rfl | rfl | rfl | rfl | rfl | rfl
    all_goals
      rw [List.mem_append]
      rintro (q | q)
      · exact absurd q (by decide)
      · first
          | exact v1 q
          | exact v2 q
          | exact v3 q
          | exact v4 q
          | exact v5 q
          | exact v6 q
          | exact v7 q
          | exact v8 q
          | exact v9 q
  · obtain ⟨p, hp, rfl⟩ := List.mem_map.1 hx
    obtain ⟨hk, hv⟩ := entA_zero _ _ h10 p hp
    have k1 : (10 : UInt8) ∉ p.1 := by
      rcases hk with e | e
      · rw [e]; decide
      · exact smallB_no e (by decide) (by decide)
    have k2 := splE_no10 hv
    unfold entL
    rw [List.mem_append, List.mem_append, List.mem_append]
    rintro (((q | q) | q) | q)
    · exact absurd q (by decide)
    · exact k1 q
    · exact absurd q (by decide)
    · exact k2 q
theorem ent_nodots {y : StyT} (h : styE y = 0) : ∀ p ∈ y.entries, (58 : UInt8) ∉ p.1 := by
  obtain ⟨-, -, -, -, -, -, -, -, -, h10⟩ := styE_parts h
  intro p hp
  rcases (entA_zero _ _ h10 p hp).1 with e | e
  · rw [e]; decide
  · exact smallB_no e (by decide) (by decide)
theorem filter_all (es : List Pr) (h : ∀ p ∈ es, (58 : UInt8) ∉ p.1) : (es.map entL).filterMap entR = es := by
  induction es with
  | nil => rfl
  | cons p es ih =>
    rw [List.map_cons, List.filterMap_cons, entR_back p (h p (by simp)), ih (fun q hq => h q (by simp [hq]))]
theorem parY_back {y : StyT} (h : styE y = 0) : parY (styLn y) = y := by
  obtain ⟨-, -, -, -, -, -, -, h8, h9, -⟩ := styE_parts h
  have he := filter_all y.entries (ent_nodots h)
  obtain ⟨-, d2⟩ := most_fin h8 h9
  unfold parY
  rw [(hd_at y 0 _ rfl).2, (hd_at y 1 _ rfl).2, (hd_at y 2 _ rfl).2, (hd_at y 3 _ rfl).2, (hd_at y 4 _ rfl).2, (hd_at y 5 _ rfl).2, (hd_at y 6 _ rfl).2, (hd_at y 7 _ rfl).2, (hd_at y 8 _ rfl).2, sty_drop, he, d2]
  obtain ⟨a1, a2, a3, a4, a5, a6, a7, a8, a9, a10⟩ := y
  simp only at h8 h9 ⊢
  have e1 : (yesL a2 == [121, 101, 115]) = a2 := by cases a2 <;> decide
  have e2 : ((a9.toNat : Nat) : Int) = a9 := by omega
  rw [e1, e2]
/-- The law's plain half. -/
theorem sty_back {y : StyT} (h : styE y = 0) : parL (linesL (styS y)) = (y, 0, 0) := by
  have hp := parY_back h
  obtain ⟨-, -, -, -, -, -, -, h8, h9, -⟩ := styE_parts h
  unfold styS
  rw [if_pos h, lines_join _ (sty_no10 h), parL_end]
  · rw [hp, if_pos h]
  · intro j hj
    have d1 := (most_fin h8 h9).1
    obtain rfl | rfl | rfl | rfl | rfl | rfl | rfl | rfl | rfl : j = 0 ∨ j = 1 ∨ j = 2 ∨ j = 3 ∨ j = 4 ∨ j = 5 ∨ j = 6 ∨ j = 7 ∨ j = 8 := by omega
    · exact (hd_at y 0 _ rfl).1
    · rw [(hd_at y 1 _ rfl).1]; unfold yesL; split <;> decide
    · exact (hd_at y 2 _ rfl).1
    · exact (hd_at y 3 _ rfl).1
    · exact (hd_at y 4 _ rfl).1
    · exact (hd_at y 5 _ rfl).1
    · exact (hd_at y 6 _ rfl).1
    · exact (hd_at y 7 _ rfl).1
    · rw [(hd_at y 8 _ rfl).1]; exact d1
  · intro j hj
    rw [sty_drop] at hj ⊢
    rw [List.length_map] at hj
    rw [List.getD_eq_getElem?_getD, List.getElem?_map, List.getElem?_eq_getElem hj]
    show (entR (entL _)).isNone = false
    rw [entR_back _ (ent_nodots h _ (List.getElem_mem hj))]
    rfl
theorem ents_len : ∀ es : List Pr, (joinLn (es.map entL)).length = 8 * es.length + sumK es
  | [] => rfl
  | p :: es => by
    have := ents_len es
    have e : joinLn ((p :: es).map entL) = entL p ++ 10 :: joinLn (es.map entL) := by simp [joinLn]
    rw [e, List.length_append, List.length_cons, this]
    have e2 : sumK (p :: es) = p.1.length + p.2.length + sumK es := by unfold sumK; simp
    rw [e2]
    unfold entL kEntry
    simp only [List.length_append, List.length_cons, List.length_nil]
    omega
theorem heads_sum {y : StyT} (h1 : 1 ≤ y.most) (h2 : y.most ≤ 32) : (joinLn (headL y)).length ≤ 70 + totY y := by
  have hd := dec_small y.most.toNat (by omega)
  have hy : (yesL y.numeric).length ≤ 3 := by unfold yesL; split <;> decide
  unfold joinLn headL headsL valsL hName hNumeric hSort hCite hBare hBetween hOpen hClose hMost totY
  simp only [List.zipWith_cons_cons, List.zipWith_nil_right, List.flatMap_cons, List.flatMap_nil, List.length_append, List.length_cons, List.length_nil]
  omega
theorem styS_len {y : StyT} (hl : LightY y) : (styS y).length ≤ 4000 := by
  unfold styS
  split
  · rename_i h
    obtain ⟨-, -, -, -, -, -, -, h8, h9, -⟩ := styE_parts h
    obtain ⟨l1, l2, -, l4⟩ := hl
    have e : joinLn (styLn y) = joinLn (headL y) ++ joinLn (y.entries.map entL) := by unfold styLn joinLn; rw [List.flatMap_append]
    have := heads_sum h8 h9
    rw [e, List.length_append, ents_len]
    omega
  · simp
end Go.Proofs.YtafcngdnngpdnaaGreatDoor

/- The law StyleBack: Text of any valid style is the chapter's, and is read as that style; the error of any other one is that of Check. No condition. -/
set_option linter.all false
namespace Go.Proofs.YtafcngdnngpdnaaGreatDoor
open Go.RowKit

set_option maxRecDepth 100000 in
set_option maxHeartbeats 6400000 in
theorem lsback_any (y : StyT) (vY : Value) (w : World) (hg : Gnd w) (hT : TabW w) (hY : Prs w vY y.entries) (hfy : FitY y) :
    Calls Tryz.prog 3 #[styV vY y] w fun e w' => e = .returned (.bool true) ∧ Kept w w' := by
  have HG := Lib.hid hg
  have HT := Lib.hid hT
  have HAW := Lib.hid (fun w h1 h2 => sawake_any w h1 h2)
  obtain ⟨aY, cY, rfl, lY⟩ := hY.form
  have HLI := Lib.hid (fun w h => slight_any (.slice aY y.entries.length cY) y w h hfy)
  unfold LightP at HLI
  have HTX := Lib.hid (fun w h (hs : SmallY y) h' => stext_any (.slice aY y.entries.length cY) y w h hs h')
  have HRT := Lib.hid (fun w (hs : SmallY y) h' => rtext31_any (.slice aY y.entries.length cY) y w hs h')
  have HPA : Hid (∀ w, Gnd w → styE y = 0 → LightY y → Calls Tryz.prog 9 #[.string (bs (styS y))] w (ParP (y, 0, 0) w)) := fun w h he hl => by
    have := sparse_any (styS y) w h (by have := styS_len hl; omega)
    rwa [sty_back he] at this
  unfold ParP at HPA
  have HSA := Lib.hid (fun vA vB w h1 h2 (hn : y.entries.length ≤ 1100000) => rsame31_eq vA vB y w h1 h2 hn)
  generalize styS y = TX at *
  generalize styE y = E at *
  have HY := Lib.hid hY
  have HS0 := Lib.hid (Blk.new w 24 (styCells (.slice aY y.entries.length cY) y))
  have HK0 := Lib.hid (kept_alloc w (.cells (styCells (.slice aY y.entries.length cY) y) 24))
  clear hg hT hY hfy
  unfold styV styCells at HLI HTX HRT HK0 ⊢
  go_enter Tryz.func3, Tryz.ntmps3
  go_wp2_with fail
  have HS1 : Hid (Blk (w.alloc (.cells #[.string (bs y.name), .bool y.numeric, .string (bs y.sort), .string (bs y.cite), .string (bs y.bare), .string (bs y.between), .string (bs y.begin_), .string (bs y.end_), .int .i64 y.most, .slice aY y.entries.length cY] 24)) w.heap.size 24 (styCells (.slice aY y.entries.length cY) y)) := HS0
  clear HS0
  generalize w.alloc _ = w0 at *
  obtain ⟨S, HSS⟩ : ∃ B, Hid (w.heap.size = B) := ⟨_, rfl⟩
  rw [HSS.out] at HS1 ⊢
  refine (HLI.out _ (HY.out.kept HK0.out)).mono ?_
  rintro e w1 ⟨b, rfl, hb, hk1⟩
  have HLB := Lib.hid hb
  have HK1 := Lib.hid (HK0.out.trans hk1)
  have HY1 := Lib.hid (HS1.out.kept hk1)
  clear hb hk1 HLI HS1 HK0 HSS
  cases b with
  | false =>
    go_wp2_with fail
    refine (HAW.out _ (HG.out.kept HK1.out) (HT.out.kept HK1.out)).mono ?_
    rintro e w9 ⟨rfl, hk9⟩
    have HK9 := Lib.hid (HK1.out.trans hk9)
    clear hk9
    go_wp2_with fail
    go_ret
    exact ⟨rfl, HK9.out⟩
  | true =>
  have HLY := Lib.hid (HLB.out rfl)
  have HSM := Lib.hid HLY.out.small
  have hel : y.entries.length ≤ 1100000 := by have := HLY.out.1; omega
  clear HLB
  go_wp2_with (refine wpList_load_blk (by rfl) 24 (.tmp 1) (by rfl) S _ (by rfl) HY1.out _ Tryz.underlying24 rfl Tryz.sizeSty ?_)
  refine (HTX.out _ (HG.out.kept HK1.out) HSM.out (HY.out.kept HK1.out)).mono ?_
  rintro e w2 ⟨rfl, hk2⟩
  have HK2 := Lib.hid (HK1.out.trans hk2)
  have HY2 := Lib.hid (HY1.out.kept hk2)
  clear hk2 HTX HK1 HY1
  go_wp2_with (refine wpList_load_blk (by rfl) 24 (.tmp 1) (by rfl) S _ (by rfl) HY2.out _ Tryz.underlying24 rfl Tryz.sizeSty ?_)
  refine (HRT.out _ HSM.out (HY.out.kept HK2.out)).mono ?_
  rintro e w3 ⟨rfl, hk3⟩
  have HK3 := Lib.hid (HK2.out.trans hk3)
  have HY3 := Lib.hid (HY2.out.kept hk3)
  clear hk3 HRT HK2 HY2
  have q1 : (TX != TX) = false := by simp
  have q2 : (E != E) = false := by simp
  by_cases hE : E = 0
  case neg =>
    have hE' : (E == 0) = false := by simpa using hE
    go_wp2_with fail
    refine (HAW.out _ (HG.out.kept HK3.out) (HT.out.kept HK3.out)).mono ?_
    rintro e w9 ⟨rfl, hk9⟩
    have HK9 := Lib.hid (HK3.out.trans hk9)
    clear hk9
    go_wp2_with fail
    go_ret
    exact ⟨rfl, HK9.out⟩
  subst hE
  go_wp2_with fail
  refine (HPA.out _ (HG.out.kept HK3.out) (by first | rfl | trivial) HLY.out).mono ?_
  rintro e w4 ⟨v4, rfl, hp4, hk4⟩
  (try simp only at hp4)
  have HP4 := Lib.hid hp4
  have HK4 := Lib.hid (HK3.out.trans hk4)
  have HY4 := Lib.hid (HY3.out.kept hk4)
  obtain ⟨a4, c4, rfl, -⟩ := hp4.form
  have HN4 := Lib.hid (Blk.new w4 24 #[.string (bs []), .bool false, .string (bs []), .string (bs []), .string (bs []), .string (bs []), .string (bs []), .string (bs []), .int .i64 0, .slice none 0 0])
  have HKN4 := Lib.hid (kept_alloc w4 (.cells #[.string (bs []), .bool false, .string (bs []), .string (bs []), .string (bs []), .string (bs []), .string (bs []), .string (bs []), .int .i64 0, .slice none 0 0] 24))
  clear hp4 hk4 HPA HK3 HY3 q1 q2
  go_wp2_with (refine wpList_store_blk rfl 24 (.tmp 7) (.tmp 38) (by rfl) w4.heap.size _ (styCells (.slice a4 y.entries.length c4) y) (by rfl) (by rfl) HN4.out rfl Tryz.sizeSty (sty_one _ rfl y) ?_; intro w5 hb5 ho5; have HKA := Lib.hid (only_kept HKN4.out ho5 (Nat.le_refl _)); have HK5 := Lib.hid (HK4.out.trans HKA.out); have HPA5 := Lib.hid (HP4.out.kept HKA.out); have HPB5 := Lib.hid (HY.out.kept HK5.out); obtain ⟨⟨r0, r1, r2, r3, r4, r5, r6, r7, r8, r9⟩, rz⟩ := sty_cells (HY4.out.kept HKA.out); obtain ⟨⟨s0, s1, s2, s3, s4, s5, s6, s7, s8, s9⟩, sz⟩ := sty_cells hb5; clear hb5 ho5 HKA)
  clear r0 r1 r2 r3 r4 r5 r6 r7 r8 r9 s0 s1 s2 s3 s4 s5 s6 s7 s8 s9 rz sz HN4 HKN4 HY4 HK4 HP4
  refine (HSA.out _ _ _ HPA5.out HPB5.out hel).mono ?_
  rintro e w6 ⟨rfl, hk6⟩
  have HK6 := Lib.hid (HK5.out.trans hk6)
  clear hk6 HK5 HPA5 HPB5
  go_wp2_with fail
  refine (HAW.out _ (HG.out.kept HK6.out) (HT.out.kept HK6.out)).mono ?_
  rintro e w7 ⟨rfl, hk7⟩
  have HK7 := Lib.hid (HK6.out.trans hk7)
  clear hk7
  go_wp2_with fail
  go_ret
  exact ⟨rfl, HK7.out⟩
end Go.Proofs.YtafcngdnngpdnaaGreatDoor
