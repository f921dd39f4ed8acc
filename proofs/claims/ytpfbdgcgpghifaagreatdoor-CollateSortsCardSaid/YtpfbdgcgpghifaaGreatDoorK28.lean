/- Append of chars; Initial of collate. Conditions: lengths. -/
import Derived.Test.YtpfbdgcgpghifaaGreatDoorK20
import Derived.Test.YtpfbdgcgpghifaaGreatDoorK27
import Derived.Test.YtpfbdgcgpghifaaGreatDoorK23

set_option linter.all false
namespace Go.Proofs.YtpfbdgcgpghifaaGreatDoor
open Go.RowKit

theorem enc_bs (c : Int) : Utf8.encode c = bs (encL c) := bs_ext rfl
set_option maxRecDepth 100000 in
set_option maxHeartbeats 1600000 in
theorem seq_any (c : Int) (w : World) (h0 : 0 ≤ c) (h1 : c ≤ 1114111) (h2 : c < 55296 ∨ 57343 < c) :
    Calls Tryz.prog 101 #[.int .i64 c] w fun e w' => e = .returned (.string (bs (encL c))) ∧ w = w' := by
  have hwr : IntKind.i32.wrap c = c := IntWalk.i32_in _ (by omega)
  have he := enc_bs c
  rcases h2 with h2 | h2
  · have e1 : ¬ (55296 : Int) ≤ c := by omega
    go_enter Tryz.func101, Tryz.ntmps101
    go_wp2_with fail
    go_ret
    exact ⟨by rw [← he]; try rfl, rfl⟩
  · have e1 : (55296 : Int) ≤ c := by omega
    have e2 : ¬ c ≤ (57343 : Int) := by omega
    go_enter Tryz.func101, Tryz.ntmps101
    go_wp2_with fail
    go_ret
    exact ⟨by rw [← he]; try rfl, rfl⟩
set_option maxRecDepth 100000 in
set_option maxHeartbeats 1600000 in
theorem cappend_any (s : Bs) (c : Int) (w : World) (hs : s.length ≤ 1000000000) (h0 : 0 ≤ c) (h1 : c ≤ 1114111) (h2 : c < 55296 ∨ 57343 < c) :
    Calls Tryz.prog 50 #[.string (bs s), .int .i64 c] w fun e w' => e = .returned (.string (bs (s ++ encL c))) ∧ w = w' := by
  have HS := Lib.hid (fun w => seq_any c w h0 h1 h2)
  have hl := encL_len c
  have ad := fun w => run_add (P := Tryz.prog) s (encL c) (by omega) (by omega) w
  generalize s ++ encL c = r at *
  generalize encL c = x at *
  go_enter Tryz.func50, Tryz.ntmps50
  go_wp2_with fail
  refine (HS.out _).mono ?_
  rintro e w1 ⟨rfl, rfl⟩
  go_wp2_with fail
  go_ret
  exact ⟨rfl, rfl⟩
theorem iniC_at (c : ColT) (s : Bs) (k : Nat) (h : k < s.length) : iniC c (ptsF s k) = if (ptsL c.ignore).contains (dec (bs s) k).1 = true then iniC c (ptsF s (k + (dec (bs s) k).2.toNat)) else match valI c (dec (bs s) k).1 with
    | some [] => []
    | some (y :: _) => iniC.iniG c y
    | none => iniC.iniG c (dec (bs s) k).1 := by
  rw [ptsF_in s k h, iniC]; rfl
theorem grp_first {c : ColT} {x : Int} {i : Nat} (h : grpI c x = some i) : ∃ o, c.order[i]? = some o ∧ 0 < o.length ∧ iniC.iniG c x = encL (dec (bs o) 0).1 ∧ i < c.order.length := by
  have hf := List.findIdx?_eq_some_iff_getElem.1 (show c.order.findIdx? (fun s => (ptsL s).contains x) = some i from h)
  obtain ⟨hi, hc, _⟩ := hf
  refine ⟨c.order[i], List.getElem?_eq_getElem hi, ?_, ?_, hi⟩
  · rcases Nat.eq_zero_or_pos (c.order[i]).length with q | q
    · exfalso
      have e : c.order[i] = [] := List.length_eq_zero_iff.1 q
      rw [e] at hc
      have : ptsL [] = [] := by rw [← ptsF_zero, ptsF_out _ _ (by simp)]
      rw [this] at hc; simp at hc
    · exact q
  · have hpos : 0 < (c.order[i]).length := by
      rcases Nat.eq_zero_or_pos (c.order[i]).length with q | q
      · exfalso
        have e : c.order[i] = [] := List.length_eq_zero_iff.1 q
        rw [e] at hc
        have : ptsL [] = [] := by rw [← ptsF_zero, ptsF_out _ _ (by simp)]
        rw [this] at hc; simp at hc
      · exact q
    unfold iniC.iniG
    rw [h]
    simp only
    have e : c.order.getD i [] = c.order[i] := by rw [List.getD_eq_getElem?_getD, List.getElem?_eq_getElem hi]; rfl
    rw [e, ← ptsF_zero, ptsF_in _ 0 hpos]; rfl
theorem grp_none {c : ColT} {x : Int} (h : grpI c x = none) : iniC.iniG c x = encL x := by unfold iniC.iniG; rw [h]
set_option maxRecDepth 100000 in
set_option maxHeartbeats 6400000 in
theorem initial_any (vR vO : Value) (c : ColT) (s : Bs) (w : World) (hv : Col w vR vO c) (hs : SmallC c) (hl : s.length ≤ 1000) :
    Calls Tryz.prog 19 #[colV vR vO c.ignore, .string (bs s)] w fun e w' => e = .returned (.string (bs (iniC c (ptsL s)))) ∧ Kept w w' := by
  have HV := Lib.hid hv
  have HT := Lib.hid (fun w h => tables_any vR vO c w h hs)
  have H0 : Hid (iniC c (ptsL s) = iniC c (ptsF s 0)) := by show _ = _; rw [ptsF_zero]
  have hn := hs.2.1
  have HOS : Hid (∀ o ∈ c.order, o.length ≤ 1000) := hs.2.2.2.1
  obtain ⟨R, HR⟩ : ∃ R, Hid (iniC c (ptsL s) = R) := ⟨_, rfl⟩
  rw [HR.out] at H0 ⊢
  obtain ⟨aR, cR, rfl, lR⟩ := hv.1.form
  obtain ⟨aO, cO, rfl, lO⟩ := hv.2.form
  clear hv
  have HK0 := Lib.hid (kept_alloc w (.cells #[.slice aR c.ranks.length cR, .slice aO c.order.length cO, .string (bs c.ignore)] 25))
  have HB0 := Lib.hid (Blk.new w 25 #[.slice aR c.ranks.length cR, .slice aO c.order.length cO, .string (bs c.ignore)])
  go_enter Tryz.func19, Tryz.ntmps19
  go_wp2_with fail
  refine (HT.out _ (HV.out.kept HK0.out)).mono ?_
  rintro e w1 ⟨v1, rfl, ht1, hk1⟩
  have HK1 := Lib.hid (HK0.out.trans hk1)
  have HB1 := Lib.hid (HB0.out.kept hk1)
  obtain ⟨m1, m2, m3, es, rfl, hm1, hm2, hm3, hm4⟩ := ht1
  have HK2 := Lib.hid (HK1.out.trans (kept_alloc w1 (.cells #[.map (some m1), .map (some m2), .map (some m3), .int .i64 c.order.length] 72)))
  have HB2 := Lib.hid (HB1.out.kept (kept_alloc w1 (.cells #[.map (some m1), .map (some m2), .map (some m3), .int .i64 c.order.length] 72)))
  have HY2 := Lib.hid (Blk.new w1 72 #[.map (some m1), .map (some m2), .map (some m3), .int .i64 c.order.length])
  have HM1 := Lib.hid (hm1.kept (kept_alloc w1 (.cells #[.map (some m1), .map (some m2), .map (some m3), .int .i64 c.order.length] 72)))
  have HM2 := Lib.hid (hm2.kept (kept_alloc w1 (.cells #[.map (some m1), .map (some m2), .map (some m3), .int .i64 c.order.length] 72)))
  have HM3 := Lib.hid (hm4.kept (kept_alloc w1 (.cells #[.map (some m1), .map (some m2), .map (some m3), .int .i64 c.order.length] 72)))
  have HVR := Lib.hid (hm3.kept (kept_alloc w1 (.cells #[.map (some m1), .map (some m2), .map (some m3), .int .i64 c.order.length] 72)))
  clear hk1 hm1 hm2 hm3 hm4
  have hz2 : (w1.alloc (.cells #[.map (some m1), .map (some m2), .map (some m3), .int .i64 c.order.length] 72)).heap.size = w1.heap.size + 1 := by simp
  go_wp2_with fail
  (try simp only [mk_bs])
  have hw2 := HY2.out.lt
  have hwB := HB2.out.lt
  generalize w1.alloc (.cells #[.map (some m1), .map (some m2), .map (some m3), .int .i64 c.order.length] 72) = w2 at *
  generalize w1.heap.size = B at *
  go_loopw [7] (fun u wr => ∃ pos : Nat, pos ≤ s.length ∧ wr.heap[(B + 1)]? = some (.stringIter (bs s) pos) ∧ Hid (R = iniC c (ptsF s pos)) ∧ Hid (Kept w2 wr)) (fun _ wr => s.length - wr.iterPos (B + 1))
  case atStart => exact ⟨0, Nat.zero_le _, by rw [← hz2]; exact World.iter_heap _ _ _, H0.out, kept_alloc _ _⟩
  case round =>
    obtain ⟨pos, hp, hit, HA, HK⟩ := hrel
    have hip : wr.iterPos (B + 1) = pos := by simp [World.iterPos, hit]
    by_cases hlt : pos < s.length
    · have nx := fun ty => run_next_k (P := Tryz.prog) wr (B + 1) (bs s) pos ty hit hlt
      have hb := dec_bounds (bs s) pos hlt
      have hdv := dec_valid (bs s) pos
      have HP := Lib.hid (iniC_at c s pos hlt)
      have HITW : Hid ((wr.iterAt (B + 1) (bs s) (pos + (dec (bs s) pos).2.toNat)).heap[(B + 1)]? = some (.stringIter (bs s) (pos + (dec (bs s) pos).2.toNat))) := Lib.iterAt_heap wr (B + 1) (bs s) pos _ hit
      have HKW : Hid (Kept w2 (wr.iterAt (B + 1) (bs s) (pos + (dec (bs s) pos).2.toNat))) := Lib.below_iterAt HK.out (by omega) (bs s) _
      obtain ⟨x, n, hd⟩ : ∃ c n, dec (bs s) pos = (c, n) := ⟨(dec (bs s) pos).1, (dec (bs s) pos).2, rfl⟩
      rw [hd] at nx hb hdv HP HITW HKW
      simp only at nx hb hdv HP HITW HKW
      obtain ⟨b1, b2, b3, b4, b5⟩ := hb
      simp only [bs_size] at b5
      obtain ⟨hx0, hx1, hx2⟩ := hdv
      obtain ⟨W, HW⟩ : ∃ W, Hid (wr.iterAt (B + 1) (bs s) (pos + n.toNat) = W) := ⟨_, rfl⟩
      simp only [HW.out] at nx HITW HKW
      have HIP := Lib.hid hip
      have t0 : W.cell? ⟨B, 0, none⟩ = some (.map (some m1)) := (HY2.out.kept HKW.out).cell 0 _ rfl
      have t1 : W.cell? ⟨B, 1, none⟩ = some (.map (some m2)) := (HY2.out.kept HKW.out).cell 1 _ rfl
      have t2 : W.cell? ⟨B, 2, none⟩ = some (.map (some m3)) := (HY2.out.kept HKW.out).cell 2 _ rfl
      have o1 : W.cell? ⟨w.heap.size, 1, none⟩ = some (.slice aO c.order.length cO) := (HB2.out.kept HKW.out).cell 1 _ rfl
      have zt := (HY2.out.kept HKW.out).lt
      have zo := (HB2.out.kept HKW.out).lt
      have lk1 := lookV (P := Tryz.prog) Tryz.underlying68 Tryz.underlying3 W m1 (setV (ptsL c.ignore)) x (.bool false) (Tryz.zeroBool W) (HM1.out.kept HKW.out)
      rw [setV_has] at lk1
      rw [HP.out] at HA
      clear hd hip hit HP
      cases hct : (ptsL c.ignore).contains x
      case true =>
        rw [hct] at lk1 HA
        rw [if_pos rfl] at HA
        go_wp2_with fail
        go_roundw
        case rel => exact ⟨pos + n.toNat, by omega, HITW.out, HA.out, HKW.out⟩
        case measure => rw [HIP.out]; have := HITW.out; simp [World.iterPos, this]; omega
      rw [hct] at lk1 HA
      rw [if_neg (by simp)] at HA
      have lk2 := lookV_ok (P := Tryz.prog) Tryz.underlying69 Tryz.underlying3 W m2 es x (.slice none 0 0) (Tryz.zeroInts W) (HM2.out.kept HKW.out)
      have HVX := Lib.hid (HVR.out x)
      cases hval : valI c x with
      | some ys =>
        rw [hval] at HVX HA
        obtain ⟨u, hu, hiu⟩ := HVX.out
        rw [hu] at lk2
        simp only [Option.getD_some, Option.isSome_some] at lk2
        have hyr := val_range hval
        have HIU := Lib.hid (hiu.kept HKW.out)
        obtain ⟨au, cu, rfl, hcu⟩ := hiu.form
        clear hval hu HVX hiu
        cases ys with
        | nil =>
          have HE : Hid (R = []) := HA
          go_wp2_with fail
          go_ret
          exact ⟨by rw [HE.out]; rfl, HK2.out.trans HKW.out⟩
        | cons y rest =>
          obtain ⟨g, o, rfl, hg, d0⟩ := HIU.out.cell_of 0 y rfl
          rw [Nat.add_zero] at d0
          obtain ⟨hy0, hy1, hy2⟩ := hyr y (by simp)
          have HE : Hid (R = iniC.iniG c y) := HA
          have hne : ((rest.length : Int) + 1 == 0) = false := by rw [beq_eq_false_iff_ne]; omega
          simp only [List.length_cons] at hcu ⊢
          have lk3 := lookV_ok (P := Tryz.prog) Tryz.underlying70 Tryz.underlying3 W m3 (grpV c) y (.int .i64 0) (Tryz.zeroInt W) (HM3.out.kept HKW.out)
          rw [grpV_is] at lk3
          clear hyr
          cases hgi : grpI c y with
          | none =>
            rw [hgi] at lk3
            simp only [Option.map_none, Option.getD_none, Option.isSome_none] at lk3
            have HE2 := Lib.hid (grp_none hgi)
            have HAP := Lib.hid (fun w => cappend_any [] y w (by simp) hy0 hy1 hy2)
            clear hgi
            go_wp2_with fail
            refine (HAP.out _).mono ?_
            rintro e w5 ⟨rfl, rfl⟩
            go_wp2_with fail
            go_ret
            exact ⟨by rw [HE.out, HE2.out]; rfl, HK2.out.trans HKW.out⟩
          | some i =>
            rw [hgi] at lk3
            simp only [Option.map_some, Option.getD_some, Option.isSome_some] at lk3
            obtain ⟨oo, hoo, hop, hoe, hil⟩ := grp_first hgi
            have hol := HOS.out oo (List.mem_of_getElem? hoo)
            have HE2 := Lib.hid hoe
            obtain ⟨gg, og, rfl, hgg, dd, _, _⟩ := (HV.out.2.kept (HK2.out.trans HKW.out)).cell_of i oo hoo
            have HNX : Hid (∀ w, Calls Tryz.prog 49 #[.string (bs oo), .int .i64 0] w (NextPost (bs oo) 0 w)) := fun w => next_any (bs oo) 0 w (by simp; omega) (by simpa using hop)
            unfold NextPost at HNX
            obtain ⟨q0, q1, q2⟩ := dec_valid (bs oo) 0
            have HAP := Lib.hid (fun w => cappend_any [] (dec (bs oo) 0).1 w (by simp) q0 q1 q2)
            generalize (dec (bs oo) 0).1 = ch at *
            generalize (dec (bs oo) 0).2 = cn at *
            clear hgi hoo hoe
            go_wp2_with fail
            refine (HNX.out _).mono ?_
            rintro e w4 ⟨rfl, n4, rfl⟩
            go_wp2_with fail
            refine (HAP.out _).mono ?_
            rintro e w5 ⟨rfl, rfl⟩
            go_wp2_with fail
            go_ret
            exact ⟨by rw [HE.out, HE2.out]; rfl, (HK2.out.trans HKW.out).trans (kept_drewN _ _)⟩
      | none =>
        rw [hval] at HVX HA
        have hgn : getV es x = none := HVX.out
        rw [hgn] at lk2
        simp only [Option.getD_none, Option.isSome_none] at lk2
        have HE : Hid (R = iniC.iniG c x) := HA
        have lk3 := lookV_ok (P := Tryz.prog) Tryz.underlying70 Tryz.underlying3 W m3 (grpV c) x (.int .i64 0) (Tryz.zeroInt W) (HM3.out.kept HKW.out)
        rw [grpV_is] at lk3
        clear hval hgn HVX
        cases hgi : grpI c x with
        | none =>
          rw [hgi] at lk3
          simp only [Option.map_none, Option.getD_none, Option.isSome_none] at lk3
          have HE2 := Lib.hid (grp_none hgi)
          have HAP := Lib.hid (fun w => cappend_any [] x w (by simp) hx0 hx1 hx2)
          clear hgi
          go_wp2_with fail
          refine (HAP.out _).mono ?_
          rintro e w5 ⟨rfl, rfl⟩
          go_wp2_with fail
          go_ret
          exact ⟨by rw [HE.out, HE2.out]; rfl, HK2.out.trans HKW.out⟩
        | some i =>
          rw [hgi] at lk3
          simp only [Option.map_some, Option.getD_some, Option.isSome_some] at lk3
          obtain ⟨oo, hoo, hop, hoe, hil⟩ := grp_first hgi
          have hol := HOS.out oo (List.mem_of_getElem? hoo)
          have HE2 := Lib.hid hoe
          obtain ⟨gg, og, rfl, hgg, dd, _, _⟩ := (HV.out.2.kept (HK2.out.trans HKW.out)).cell_of i oo hoo
          have HNX : Hid (∀ w, Calls Tryz.prog 49 #[.string (bs oo), .int .i64 0] w (NextPost (bs oo) 0 w)) := fun w => next_any (bs oo) 0 w (by simp; omega) (by simpa using hop)
          unfold NextPost at HNX
          obtain ⟨q0, q1, q2⟩ := dec_valid (bs oo) 0
          have HAP := Lib.hid (fun w => cappend_any [] (dec (bs oo) 0).1 w (by simp) q0 q1 q2)
          generalize (dec (bs oo) 0).1 = ch at *
          generalize (dec (bs oo) 0).2 = cn at *
          clear hgi hoo hoe
          go_wp2_with fail
          refine (HNX.out _).mono ?_
          rintro e w4 ⟨rfl, n4, rfl⟩
          go_wp2_with fail
          refine (HAP.out _).mono ?_
          rintro e w5 ⟨rfl, rfl⟩
          go_wp2_with fail
          go_ret
          exact ⟨by rw [HE.out, HE2.out]; rfl, (HK2.out.trans HKW.out).trans (kept_drewN _ _)⟩
    · have nx := fun ty => run_next_k_end (P := Tryz.prog) wr (B + 1) (bs s) pos ty hit hlt
      have HE : Hid (R = []) := by
        show _ = _
        rw [HA.out, ptsF_out s pos hlt]; rfl
      go_wp2_with fail
      go_ret
      exact ⟨by rw [HE.out]; rfl, HK2.out.trans HK.out⟩
end Go.Proofs.YtpfbdgcgpghifaaGreatDoor

/- Plain law: indices sorted by text and then by place stand in one order alone. No condition. -/
set_option linter.all false
namespace Go.Proofs.YtpfbdgcgpghifaaGreatDoor
open Go.RowKit

/-- How indices compare: by text, then by place. -/
def cmpN (c : ColT) (l : List Bs) (i k : Nat) : Int := if cmpC c (txt l i) (txt l k) ≠ 0 then cmpC c (txt l i) (txt l k) else if i < k then -1 else if k < i then 1 else 0
def LtN (c : ColT) (l : List Bs) (i k : Nat) : Prop := cmpN c l i k < 0
theorem cmpN_neg (c : ColT) (l : List Bs) (i k : Nat) : cmpN c l k i = - cmpN c l i k := by
  unfold cmpN
  rw [cmpC_neg c (txt l i) (txt l k)]
  by_cases h : cmpC c (txt l i) (txt l k) = 0
  · rw [if_neg (show ¬ (- cmpC c (txt l i) (txt l k) ≠ 0) by omega), if_neg (show ¬ (cmpC c (txt l i) (txt l k) ≠ 0) by omega)]
    rcases Nat.lt_trichotomy i k with q | q | q
    · rw [if_neg (show ¬ k < i by omega), if_pos q, if_pos q]; rfl
    · subst q; simp
    · rw [if_pos q, if_neg (show ¬ i < k by omega), if_pos q]
  · rw [if_pos (show - cmpC c (txt l i) (txt l k) ≠ 0 by omega), if_pos h]
theorem cmpN_zero (c : ColT) (l : List Bs) (i k : Nat) (h : cmpN c l i k = 0) : i = k := by
  unfold cmpN at h
  split at h
  · rename_i q; exact absurd h q
  · split at h
    · cases h
    · split at h
      · cases h
      · omega
theorem cmpN_le (c : ColT) (l : List Bs) (i k : Nat) (h : cmpN c l i k ≤ 0) : cmpC c (txt l i) (txt l k) ≤ 0 := by
  unfold cmpN at h
  split at h
  · exact h
  · rename_i q
    have : cmpC c (txt l i) (txt l k) = 0 := by simpa using q
    omega
theorem cmpN_trans (c : ColT) (l : List Bs) (i j k : Nat) (h1 : cmpN c l i j ≤ 0) (h2 : cmpN c l j k ≤ 0) : cmpN c l i k ≤ 0 := by
  have a := cmpN_le c l i j h1
  have b := cmpN_le c l j k h2
  have d := cmpC_trans c _ _ _ a b
  by_cases hC : cmpC c (txt l i) (txt l k) = 0
  · have e := (cmpC_zero c _ _).1 hC
    have hA : cmpC c (txt l i) (txt l j) = 0 := by
      rw [← e] at b
      have := cmpC_neg c (txt l j) (txt l i)
      omega
    have e2 := (cmpC_zero c _ _).1 hA
    have hB : cmpC c (txt l j) (txt l k) = 0 := by rw [← e2, ← e]; exact cmpC_self c _
    unfold cmpN at h1 h2 ⊢
    rw [if_neg (by omega)] at h1 h2 ⊢
    split
    · omega
    · split
      · split at h1
        · split at h2
          · omega
          · split at h2
            · omega
            · omega
        · split at h1
          · omega
          · split at h2
            · omega
            · split at h2
              · omega
              · omega
      · omega
  · unfold cmpN
    rw [if_pos hC]; exact d
theorem uniq {α : Type} {R : α → α → Prop} (hasym : ∀ a b, R a b → R b a → False) : ∀ (xs ys : List α), xs.Perm ys → xs.Pairwise R → ys.Pairwise R → xs = ys
  | [], ys, h, _, _ => by
    have := h.length_eq
    exact (List.length_eq_zero_iff.1 (by simpa using this.symm)).symm
  | x :: xs, [], h, _, _ => by have := h.length_eq; simp at this
  | x :: xs, y :: ys, h, hx, hy => by
    have e : x = y := by
      apply Classical.byContradiction
      intro hne
      have m1 : x ∈ y :: ys := h.subset (by simp)
      have m2 : y ∈ x :: xs := h.symm.subset (by simp)
      have r1 : R y x := (List.pairwise_cons.1 hy).1 x ((List.mem_cons.1 m1).resolve_left hne)
      have r2 : R x y := (List.pairwise_cons.1 hx).1 y ((List.mem_cons.1 m2).resolve_left (Ne.symm hne))
      exact hasym _ _ r1 r2
    subst e
    rw [uniq hasym xs ys (List.Perm.cons_inv h) (List.pairwise_cons.1 hx).2 (List.pairwise_cons.1 hy).2]
theorem LtN_asym (c : ColT) (l : List Bs) (a b : Nat) (h : LtN c l a b) (k : LtN c l b a) : False := by
  unfold LtN at h k
  have := cmpN_neg c l a b
  omega
theorem insC_lt (c : ColT) (l : List Bs) (out : List Nat) (i : Nat) (h : out.Pairwise (LtN c l)) (hlt : ∀ k ∈ out, k < i) : (insC c l out i).Pairwise (LtN c l) := by
  have hle0 : out.Pairwise (LeC c l) := h.imp (fun {a b} q => cmpN_le c l a b (Int.le_of_lt q))
  obtain ⟨h1, h2⟩ := atC_parts c l i out
  have hle := atC_le c l i out
  unfold insC
  generalize atC c l i out = a at *
  have hp := h
  rw [← List.take_append_drop a out, List.pairwise_append] at hp
  obtain ⟨p1, p2, p3⟩ := hp
  have hq := hle0
  rw [← List.take_append_drop a out, List.pairwise_append] at hq
  obtain ⟨q1, _, _⟩ := hq
  have hd : ∀ k ∈ out.drop a, LtN c l i k := fun k hk => by
    have := h1 k hk
    unfold ltC at this
    simp only [decide_eq_true_eq] at this
    unfold LtN cmpN
    rw [if_pos (by omega)]; exact this
  have ht : ∀ k ∈ out.take a, LtN c l k i := fun k hk => by
    have hki := hlt k (List.mem_of_mem_take hk)
    have hL : LeC c l k i := by
      have hpos : 0 < a := by
        rcases Nat.eq_zero_or_pos a with rfl | q
        · simp at hk
        · exact q
      have hz := h2 _ hpos (List.getElem?_eq_getElem (by omega))
      unfold ltC at hz
      simp only [decide_eq_false_iff_not] at hz
      have hl : LeC c l (out[a - 1]'(by omega)) i := by
        unfold LeC
        have := cmpC_neg c (txt l i) (txt l (out[a - 1]'(by omega)))
        omega
      have e3 : out.take a = out.take (a - 1) ++ [out[a - 1]'(by omega)] := by
        have := List.take_succ_eq_append_getElem (l := out) (i := a - 1) (by omega)
        rwa [Nat.sub_add_cancel hpos] at this
      rw [e3] at hk q1
      rcases List.mem_append.1 hk with q | q
      · have := (List.pairwise_append.1 q1).2.2 k q (out[a - 1]'(by omega)) (by simp)
        exact cmpC_trans c _ _ _ this hl
      · simp at q; rw [q]; exact hl
    unfold LeC at hL
    unfold LtN cmpN
    by_cases z : cmpC c (txt l k) (txt l i) = 0
    · rw [if_neg (by omega), if_pos hki]; omega
    · rw [if_pos z]; omega
  rw [List.pairwise_append]
  refine ⟨p1, List.pairwise_cons.2 ⟨hd, p2⟩, fun x hx y hy => ?_⟩
  rcases List.mem_cons.1 hy with rfl | hy
  · exact ht x hx
  · exact p3 x hx y hy
theorem sortN_lt (c : ColT) (l : List Bs) : ∀ n, (sortN c l n).Pairwise (LtN c l)
  | 0 => .nil
  | n + 1 => by rw [sortN_succ]; exact insC_lt c l _ n (sortN_lt c l n) (fun k hk => sortN_mem c l n k hk)
/-- Whatever list holds the indices once each, none behind a greater one, is what insertion makes. -/
theorem sort_one (c : ColT) (l : List Bs) (d : List Nat) (hp : d.Perm (List.range l.length)) (hs : d.Pairwise fun a b => ¬ cmpN c l b a < 0) : d = sortC c l := by
  have hn : d.Pairwise (· ≠ ·) := hp.nodup_iff.2 List.nodup_range
  refine uniq (LtN_asym c l) d (sortC c l) (hp.trans (sortN_perm c l l.length).symm) ?_ (sortN_lt c l l.length)
  refine (hs.and hn).imp ?_
  rintro a b ⟨h1, h2⟩
  unfold LtN
  have h3 := cmpN_neg c l a b
  have h4 : cmpN c l a b ≠ 0 := fun q => h2 (cmpN_zero c l a b q)
  omega
end Go.Proofs.YtpfbdgcgpghifaaGreatDoor
