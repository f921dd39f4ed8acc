/- gloss.definitions: the definitions in glossaries, in document order. Conditions: lengths. -/
import Derived.Test.YthbnahagfojfbaaG06
import Derived.Test.YthbnahagfojfbaaG12
import Derived.Test.YthbnahagfojfbaaG02
import Derived.Test.YthbnahagfojfbaaG01
import Derived.Test.YthbnahagfojfbaaG07
import Derived.Deep.RegionWith

set_option linter.all false
namespace Go.Proofs.Ythbnahagfojfbaa
open Go.RowKit

theorem Try.sizeBl : (Try.prog.info? 37).map (fun x => x.size) = some 11 := by kernel_rfl
theorem Try.infoBl : (Try.prog.info? 37).map (fun i => (i.zero, i.size, i.bytes)) = some (some (.agg #[.int .i64 0, .int .i64 0, .string ⟨#[]⟩, .string ⟨#[]⟩, .string ⟨#[]⟩, .string ⟨#[]⟩, .string ⟨#[]⟩, .slice none 0 0, .slice none 0 0, .slice none 0 0, .slice none 0 0]), 11, 192) := by kernel_rfl
theorem isTm_mk (kind level : Int) (info text dest title id : Bs) (cls : List Bs) (prs : List Pr) (line : List Inl) (kids : List Blo) : isTm (.mk kind level info text dest title id cls prs line kids) = (decide (kind = 13) && info == kTerm) := rfl
theorem isGl_mk (kind level : Int) (info text dest title id : Bs) (cls : List Bs) (prs : List Pr) (line : List Inl) (kids : List Blo) : isGl (.mk kind level info text dest title id cls prs line kids) = (decide (kind = 13) && info == kGlos) := rfl
/-- One or none. -/
def selB (b : Bool) (x : Blo) : List Blo := match b with | true => [x] | false => []
def DefP (N M B base : Nat) (zs : List Blo) (w : World) (e : Ending) (w' : World) : Prop := ∃ v, e = .returned v ∧ OutG (BloK N M) 11 (fun g => g < B) base 37 w' v zs ∧ Only (fun g => base ≤ g) w w'
set_option maxRecDepth 100000 in
set_option maxHeartbeats 12800000 in
theorem defs_any (N M B base : Nat) (hBb : B ≤ base) : ∀ (n : Nat) (xs : List Blo) (v : Value) (ins : Bool) (ys : List Blo) (vO : Value) (w : World), n ≤ M + 1 → Bls (fun g => g < B) N n w v xs → xs.length ≤ 1000000 → okBL xs → base ≤ w.heap.size → OutG (BloK N M) 11 (fun g => g < B) base 37 w vO ys → ys.length + (defsL ins xs).length ≤ 1000000 →
    Calls Try.prog 26 #[vO, v, .bool ins] w (DefP N M B base (ys ++ defsL ins xs) w) := by
  intro n
  induction n with
  | zero =>
    intro xs v ins ys vO w hN hv hl hok hb hout hlen
    obtain rfl := hv.no
    obtain ⟨a, c, rfl, hc⟩ := hv.form
    obtain ⟨aO, cO, rfl, hcO, -⟩ := hout.form
    have HFIN : DefP N M B base (ys ++ defsL ins []) w (.returned (.slice aO ys.length cO)) w := ⟨_, rfl, by show OutG _ _ _ _ _ _ _ (ys ++ []); rw [List.append_nil]; exact hout, Only.of_kept (Kept.refl w)⟩
    clear hv hok hout hlen
    go_enter Try.func26, Try.ntmps26
    go_wp2_with fail
    go_loopw [0, 11] (fun o i wr => o = .slice aO ys.length cO ∧ i = .int .i64 0 ∧ w = wr) (fun _ i _ => 1)
    case atStart => exact ⟨rfl, rfl, rfl⟩
    case round =>
      obtain ⟨rfl, rfl, rfl⟩ := hrel
      go_wp2_with fail
      go_ret
      exact HFIN
  | succ n ih =>
    intro xs v ins ys vO w hN hv hl hok hb hout hlen
    have HV := Lib.hid hv
    have HOK := Lib.hid hok
    have HG0 : Hid (OutG (BloK N M) 11 (fun g => g < B) base 37 w vO (ys ++ defsL ins (xs.take 0))) := by show OutG _ _ _ _ _ _ _ (ys ++ []); rw [List.append_nil]; exact hout
    have HFIN : Hid (∀ vO w', OutG (BloK N M) 11 (fun g => g < B) base 37 w' vO (ys ++ defsL ins (xs.take xs.length)) → Only (fun g => base ≤ g) w w' → DefP N M B base (ys ++ defsL ins xs) w (.returned vO) w') := fun vO w' h1 h2 => ⟨_, rfl, by rw [List.take_length] at h1; exact h1, h2⟩
    have HLE := Lib.hid (defsL_le ins xs)
    have HTK : Hid (∀ (k : Nat) (x : Blo), xs[k]? = some x → defsL ins (xs.take (k + 1)) = defsL ins (xs.take k) ++ (selB (ins && isTm x) x ++ defsL (isGl x) x.kids)) := fun k x h => by rw [defsL_take h, defs1_eq]; unfold selB; cases (ins && isTm x) <;> rfl
    have HIH := Lib.hid ih
    unfold DefP at HIH
    obtain ⟨i0, hi, hz0, hz1, hz2⟩ := info_parts Try.infoBl
    obtain ⟨a, c, rfl, hc⟩ := hv.form
    obtain ⟨aO, cO, rfl, hcO, -⟩ := hout.form
    generalize hP : DefP N M B base (ys ++ defsL ins xs) w = P at *
    clear hP hv hok hout ih
    go_enter Try.func26, Try.ntmps26
    go_wp2_with fail
    go_loopw [0, 11] (fun o i wr => ∃ (k : Nat), k ≤ xs.length ∧ i = .int .i64 k ∧ Hid (OutG (BloK N M) 11 (fun g => g < B) base 37 wr o (ys ++ defsL ins (xs.take k))) ∧ Hid (Only (fun g => base ≤ g) w wr)) (fun _ i _ => xs.length - (intOf i).toNat)
    case atStart => exact ⟨0, Nat.zero_le _, rfl, HG0.out, Only.of_kept (Kept.refl w)⟩
    case round =>
      obtain ⟨k, hk, rfl, HGR, HKR⟩ := hrel
      have hbr : base ≤ wr.heap.size := Nat.le_trans hb HKR.out.size
      by_cases hlt : k < xs.length
      · obtain ⟨x, hx⟩ : ∃ x, xs[k]? = some x := ⟨_, List.getElem?_eq_getElem hlt⟩
        have HVR := Lib.hid (HV.out.sam (Sam.only HKR.out (fun g _ h q => by omega)) (fun g _ h => h))
        have hfit := (okBL_at HOK.out x (List.mem_of_getElem? hx)).fit
        have hle := HLE.out (k + 1)
        have hl6 : (ys ++ defsL ins (xs.take k)).length ≤ 1000000 := by have := HLE.out k; rw [List.length_append]; omega
        have HT := Lib.hid (HTK.out k x hx)
        rw [HT.out, List.length_append, List.length_append] at hle
        obtain ⟨g, o, vC, vP, vL, vK, rfl, hg, hgB, -, -, ⟨d0, d1, d2, d3, d4, d5, d6, d7, d8, d9, d10⟩, -, ⟨hC, iC⟩, ⟨hPP, iP⟩, hL, hK⟩ := Bls.at_ HVR.out k x hx
        obtain ⟨kind, level, info, text, dest, title, id, cls, prs, line, kids⟩ := x
        simp only [Blo.kind, Blo.level, Blo.info, Blo.text, Blo.dest, Blo.title, Blo.id, Blo.cls, Blo.prs, Blo.line, Blo.kids, isTm_mk, isGl_mk] at d0 d1 d2 d3 d4 d5 d6 hC iC hPP iP hL hK hfit HT hle
        obtain ⟨⟨f1, f2, f3, f4, f5, f6, f7, f8, f9⟩, f10, f11⟩ := hfit
        have HY : Hid (BloK N M (fun g => g < B) wr (bloC (.mk kind level info text dest title id cls prs line kids) vC vP vL vK) (.mk kind level info text dest title id cls prs line kids)) := ⟨vC, vP, vL, vK, rfl, ⟨hC, iC⟩, ⟨hPP, iP⟩, hL, hK.ups (by omega)⟩
        obtain ⟨aC, cC, rfl, lC⟩ := hC.shape
        obtain ⟨aP, cP, rfl, lP⟩ := hPP.shape
        obtain ⟨aL, cL, rfl, lL⟩ := hL.form
        obtain ⟨aK, cK, rfl, lK⟩ := hK.form
        have HKK := Lib.hid hK
        have HKO2 := Lib.hid f11
        have HB0 := Lib.hid (Blk.new wr 37 #[.int .i64 kind, .int .i64 level, .string (bs info), .string (bs text), .string (bs dest), .string (bs title), .string (bs id), .slice aC cls.length cC, .slice aP prs.length cP, .slice aL line.length cL, .slice aK kids.length cK])
        have HKI := Lib.hid (kept_alloc wr (.cells #[.int .i64 kind, .int .i64 level, .string (bs info), .string (bs text), .string (bs dest), .string (bs title), .string (bs id), .slice aC cls.length cC, .slice aP prs.length cP, .slice aL line.length cL, .slice aK kids.length cK] 37))
        have HTM := Lib.hid (fun w => istm_any kind level info text dest title id (.slice aC cls.length cC) (.slice aP prs.length cP) (.slice aL line.length cL) (.slice aK kids.length cK) w rfl rfl rfl rfl)
        have HGL := Lib.hid (fun w => isgl_any kind level info text dest title id (.slice aC cls.length cC) (.slice aP prs.length cP) (.slice aL line.length cL) (.slice aK kids.length cK) w rfl rfl rfl rfl)
        obtain ⟨I, HII⟩ : ∃ I, Hid (wr.heap.size = I) := ⟨_, rfl⟩
        have hIb : base ≤ I := by rw [← HII.out]; exact hbr
        clear hC iC hPP iP hL hK f10 f11 hx HTK HLE HV HVR HFIN
        obtain ⟨TT, hgt⟩ : ∃ t, Hid ((decide (kind = 13) && info == kTerm) = t) := ⟨_, Lib.hid rfl⟩
        obtain ⟨GG, hgg⟩ : ∃ t, Hid ((decide (kind = 13) && info == kGlos) = t) := ⟨_, Lib.hid rfl⟩
        rw [hgt.out] at hle HT HTM
        rw [hgg.out] at hle HT HGL
        clear hgt hgg
        obtain ⟨zs, HZS⟩ : ∃ zs, Hid (ys ++ defsL ins (xs.take k) = zs) := ⟨_, Lib.hid rfl⟩
        rw [HZS.out] at HGR hl6
        obtain ⟨ar, cr, rfl, hcr, hmr⟩ := HGR.out.form
        have hzl : zs.length = ys.length + (defsL ins (xs.take k)).length := by rw [← HZS.out, List.length_append]
        obtain ⟨hl7, hl8⟩ : zs.length + (selB (ins && TT) (Blo.mk kind level info text dest title id cls prs line kids)).length + (defsL GG kids).length ≤ 1000000 ∧ (selB (ins && TT) (Blo.mk kind level info text dest title id cls prs line kids)).length ≤ 1 := by
          refine ⟨by rw [hzl]; omega, ?_⟩
          unfold selB; cases (ins && TT) <;> simp
        have HEQ : Hid (zs ++ selB (ins && TT) (Blo.mk kind level info text dest title id cls prs line kids) ++ defsL GG kids = ys ++ defsL ins (xs.take (k + 1))) := by
          show _ = _
          rw [HT.out, ← HZS.out]; simp
        clear HT hzl hle
        cases ins with
        | false =>
          go_wp2_with fail
          generalize wr.alloc _ = w6 at *
          have HOUT7 : Hid (OutG (BloK N M) 11 (fun g => g < B) base 37 w6 (.slice ar zs.length cr) (zs ++ selB (false && TT) (Blo.mk kind level info text dest title id cls prs line kids))) := by
            show OutG _ _ _ _ _ _ _ (zs ++ []); rw [List.append_nil]; exact HGR.out.kept (bloK N M) HKI.out
          have HON6 : Hid (Only (fun g => base ≤ g) wr w6) := Only.of_kept HKI.out
          have HKK6 := Lib.hid ((HKK.out.kept HKI.out).kept (kept_drewN w6 1))
          rw [HII.out] at HB0 ⊢
          clear HTM HGR HY d0 d1 d2 d3 d4 d5 d6 d7 d8 d9 d10 HKI HKK
          have HG6 := Lib.hid (HGL.out w6.drew)
          have y0 : w6.cell? ⟨I, 0, none⟩ = some (.int .i64 kind) := (HB0.out).cell 0 _ rfl
          have z0 : w6.drew.cell? ⟨I, 0, none⟩ = some (.int .i64 kind) := (HB0.out).cell 0 _ rfl
          have y1 : w6.cell? ⟨I, 1, none⟩ = some (.int .i64 level) := (HB0.out).cell 1 _ rfl
          have z1 : w6.drew.cell? ⟨I, 1, none⟩ = some (.int .i64 level) := (HB0.out).cell 1 _ rfl
          have y2 : w6.cell? ⟨I, 2, none⟩ = some (.string (bs info)) := (HB0.out).cell 2 _ rfl
          have z2 : w6.drew.cell? ⟨I, 2, none⟩ = some (.string (bs info)) := (HB0.out).cell 2 _ rfl
          have y3 : w6.cell? ⟨I, 3, none⟩ = some (.string (bs text)) := (HB0.out).cell 3 _ rfl
          have z3 : w6.drew.cell? ⟨I, 3, none⟩ = some (.string (bs text)) := (HB0.out).cell 3 _ rfl
          have y4 : w6.cell? ⟨I, 4, none⟩ = some (.string (bs dest)) := (HB0.out).cell 4 _ rfl
          have z4 : w6.drew.cell? ⟨I, 4, none⟩ = some (.string (bs dest)) := (HB0.out).cell 4 _ rfl
          have y5 : w6.cell? ⟨I, 5, none⟩ = some (.string (bs title)) := (HB0.out).cell 5 _ rfl
          have z5 : w6.drew.cell? ⟨I, 5, none⟩ = some (.string (bs title)) := (HB0.out).cell 5 _ rfl
          have y6 : w6.cell? ⟨I, 6, none⟩ = some (.string (bs id)) := (HB0.out).cell 6 _ rfl
          have z6 : w6.drew.cell? ⟨I, 6, none⟩ = some (.string (bs id)) := (HB0.out).cell 6 _ rfl
          have y7 : w6.cell? ⟨I, 7, none⟩ = some (.slice aC cls.length cC) := (HB0.out).cell 7 _ rfl
          have z7 : w6.drew.cell? ⟨I, 7, none⟩ = some (.slice aC cls.length cC) := (HB0.out).cell 7 _ rfl
          have y8 : w6.cell? ⟨I, 8, none⟩ = some (.slice aP prs.length cP) := (HB0.out).cell 8 _ rfl
          have z8 : w6.drew.cell? ⟨I, 8, none⟩ = some (.slice aP prs.length cP) := (HB0.out).cell 8 _ rfl
          have y9 : w6.cell? ⟨I, 9, none⟩ = some (.slice aL line.length cL) := (HB0.out).cell 9 _ rfl
          have z9 : w6.drew.cell? ⟨I, 9, none⟩ = some (.slice aL line.length cL) := (HB0.out).cell 9 _ rfl
          have y10 : w6.cell? ⟨I, 10, none⟩ = some (.slice aK kids.length cK) := (HB0.out).cell 10 _ rfl
          have z10 : w6.drew.cell? ⟨I, 10, none⟩ = some (.slice aK kids.length cK) := (HB0.out).cell 10 _ rfl
          have hZ : base ≤ w6.heap.size := Nat.le_trans hbr HON6.out.size
          have hl9 : (zs ++ selB (false && TT) (Blo.mk kind level info text dest title id cls prs line kids)).length + (defsL GG kids).length ≤ 1000000 := by rw [List.length_append]; exact hl7
          clear HGL
          go_region_with (first
            | (go_at_call 46; refine HG6.out.mono ?_; rintro e w8 ⟨rfl, hk8⟩; have HK8 := Lib.hid hk8; have HCA := Lib.hid (HIH.out _ _ GG _ _ w8 (by omega) (HKK6.out.kept hk8) f9 HKO2.out (Nat.le_trans hZ hk8.size) ((HOUT7.out.kept (bloK N M) (kept_drewN w6 1)).kept (bloK N M) hk8) hl9); have x10 : w8.cell? ⟨I, 8 + 2, none⟩ = some (.slice aK kids.length cK) := ((HB0.out.kept (kept_drewN w6 1)).kept hk8).cell 10 _ rfl; clear hk8)
            | (go_at_call 26; refine HCA.out.mono ?_; rintro e w9 ⟨v9, rfl, hout9, hon9⟩))
          all_goals
            have HOUT9 : Hid (OutG (BloK N M) 11 (fun g => g < B) base 37 w9 v9 (ys ++ defsL false (xs.take (k + 1)))) := by rw [HEQ.out] at hout9; exact hout9
            have HON9 : Hid (Only (fun g => base ≤ g) w w9) := HKR.out.trans (HON6.out.trans ((Only.of_kept ((kept_drewN w6 1).trans HK8.out)).trans hon9))
            clear hout9 hon9 HCA HK8 HEQ HON6 HOUT7 HKK6 HKO2 HG6 y0 z0 y1 z1 y2 z2 y3 z3 y4 z4 y5 z5 y6 z6 y7 z7 y8 z8 y9 z9 y10 z10
            go_wp2_with fail
            go_roundw
            case rel => exact ⟨k + 1, by omega, by go_num, HOUT9.out, HON9.out⟩
            case measure => simp [intOf]; omega
        | true =>
          have HT0 := Lib.hid (HTM.out (wr.alloc (.cells #[.int .i64 kind, .int .i64 level, .string (bs info), .string (bs text), .string (bs dest), .string (bs title), .string (bs id), .slice aC cls.length cC, .slice aP prs.length cP, .slice aL line.length cL, .slice aK kids.length cK] 37)))
          go_wp2_with fail
          generalize wr.alloc _ = w0 at *
          refine HT0.out.mono ?_
          rintro e w1 ⟨rfl, hk1⟩
          rw [HII.out] at HB0 ⊢
          have HB1 := Lib.hid (HB0.out.kept hk1)
          have HK1 := Lib.hid (HKI.out.trans hk1)
          clear HT0 HTM hk1 HB0 HKI d0 d1 d2 d3 d4 d5 d6 d7 d8 d9 d10
          have c0 : w1.cell? ⟨I, 0, none⟩ = some (.int .i64 kind) := HB1.out.cell 0 _ rfl
          have c1 : w1.cell? ⟨I, 1, none⟩ = some (.int .i64 level) := HB1.out.cell 1 _ rfl
          have c2 : w1.cell? ⟨I, 2, none⟩ = some (.string (bs info)) := HB1.out.cell 2 _ rfl
          have c3 : w1.cell? ⟨I, 3, none⟩ = some (.string (bs text)) := HB1.out.cell 3 _ rfl
          have c4 : w1.cell? ⟨I, 4, none⟩ = some (.string (bs dest)) := HB1.out.cell 4 _ rfl
          have c5 : w1.cell? ⟨I, 5, none⟩ = some (.string (bs title)) := HB1.out.cell 5 _ rfl
          have c6 : w1.cell? ⟨I, 6, none⟩ = some (.string (bs id)) := HB1.out.cell 6 _ rfl
          have c7 : w1.cell? ⟨I, 7, none⟩ = some (.slice aC cls.length cC) := HB1.out.cell 7 _ rfl
          have c8 : w1.cell? ⟨I, 8, none⟩ = some (.slice aP prs.length cP) := HB1.out.cell 8 _ rfl
          have c9 : w1.cell? ⟨I, 9, none⟩ = some (.slice aL line.length cL) := HB1.out.cell 9 _ rfl
          have c10 : w1.cell? ⟨I, 10, none⟩ = some (.slice aK kids.length cK) := HB1.out.cell 10 _ rfl
          cases TT with
          | false =>
            go_wp2_with fail
            have HOUT7 : Hid (OutG (BloK N M) 11 (fun g => g < B) base 37 w1 (.slice ar zs.length cr) (zs ++ selB (true && false) (Blo.mk kind level info text dest title id cls prs line kids))) := by
              show OutG _ _ _ _ _ _ _ (zs ++ []); rw [List.append_nil]; exact HGR.out.kept (bloK N M) HK1.out
            have HON6 : Hid (Only (fun g => base ≤ g) wr w1) := Only.of_kept HK1.out
            have HKK6 := Lib.hid ((HKK.out.kept HK1.out).kept (kept_drewN w1 1))
            clear HGR HY HK1 HKK c0 c1 c2 c3 c4 c5 c6 c7 c8 c9 c10
            have HG6 := Lib.hid (HGL.out w1.drew)
            have y0 : w1.cell? ⟨I, 0, none⟩ = some (.int .i64 kind) := (HB1.out).cell 0 _ rfl
            have z0 : w1.drew.cell? ⟨I, 0, none⟩ = some (.int .i64 kind) := (HB1.out).cell 0 _ rfl
            have y1 : w1.cell? ⟨I, 1, none⟩ = some (.int .i64 level) := (HB1.out).cell 1 _ rfl
            have z1 : w1.drew.cell? ⟨I, 1, none⟩ = some (.int .i64 level) := (HB1.out).cell 1 _ rfl
            have y2 : w1.cell? ⟨I, 2, none⟩ = some (.string (bs info)) := (HB1.out).cell 2 _ rfl
            have z2 : w1.drew.cell? ⟨I, 2, none⟩ = some (.string (bs info)) := (HB1.out).cell 2 _ rfl
            have y3 : w1.cell? ⟨I, 3, none⟩ = some (.string (bs text)) := (HB1.out).cell 3 _ rfl
            have z3 : w1.drew.cell? ⟨I, 3, none⟩ = some (.string (bs text)) := (HB1.out).cell 3 _ rfl
            have y4 : w1.cell? ⟨I, 4, none⟩ = some (.string (bs dest)) := (HB1.out).cell 4 _ rfl
            have z4 : w1.drew.cell? ⟨I, 4, none⟩ = some (.string (bs dest)) := (HB1.out).cell 4 _ rfl
            have y5 : w1.cell? ⟨I, 5, none⟩ = some (.string (bs title)) := (HB1.out).cell 5 _ rfl
            have z5 : w1.drew.cell? ⟨I, 5, none⟩ = some (.string (bs title)) := (HB1.out).cell 5 _ rfl
            have y6 : w1.cell? ⟨I, 6, none⟩ = some (.string (bs id)) := (HB1.out).cell 6 _ rfl
            have z6 : w1.drew.cell? ⟨I, 6, none⟩ = some (.string (bs id)) := (HB1.out).cell 6 _ rfl
            have y7 : w1.cell? ⟨I, 7, none⟩ = some (.slice aC cls.length cC) := (HB1.out).cell 7 _ rfl
            have z7 : w1.drew.cell? ⟨I, 7, none⟩ = some (.slice aC cls.length cC) := (HB1.out).cell 7 _ rfl
            have y8 : w1.cell? ⟨I, 8, none⟩ = some (.slice aP prs.length cP) := (HB1.out).cell 8 _ rfl
            have z8 : w1.drew.cell? ⟨I, 8, none⟩ = some (.slice aP prs.length cP) := (HB1.out).cell 8 _ rfl
            have y9 : w1.cell? ⟨I, 9, none⟩ = some (.slice aL line.length cL) := (HB1.out).cell 9 _ rfl
            have z9 : w1.drew.cell? ⟨I, 9, none⟩ = some (.slice aL line.length cL) := (HB1.out).cell 9 _ rfl
            have y10 : w1.cell? ⟨I, 10, none⟩ = some (.slice aK kids.length cK) := (HB1.out).cell 10 _ rfl
            have z10 : w1.drew.cell? ⟨I, 10, none⟩ = some (.slice aK kids.length cK) := (HB1.out).cell 10 _ rfl
            have hZ : base ≤ w1.heap.size := Nat.le_trans hbr HON6.out.size
            have hl9 : (zs ++ selB (true && false) (Blo.mk kind level info text dest title id cls prs line kids)).length + (defsL GG kids).length ≤ 1000000 := by rw [List.length_append]; exact hl7
            clear HGL
            go_region_with (first
              | (go_at_call 46; refine HG6.out.mono ?_; rintro e w8 ⟨rfl, hk8⟩; have HK8 := Lib.hid hk8; have HCA := Lib.hid (HIH.out _ _ GG _ _ w8 (by omega) (HKK6.out.kept hk8) f9 HKO2.out (Nat.le_trans hZ hk8.size) ((HOUT7.out.kept (bloK N M) (kept_drewN w1 1)).kept (bloK N M) hk8) hl9); have x10 : w8.cell? ⟨I, 8 + 2, none⟩ = some (.slice aK kids.length cK) := ((HB1.out.kept (kept_drewN w1 1)).kept hk8).cell 10 _ rfl; clear hk8)
              | (go_at_call 26; refine HCA.out.mono ?_; rintro e w9 ⟨v9, rfl, hout9, hon9⟩))
            all_goals
              have HOUT9 : Hid (OutG (BloK N M) 11 (fun g => g < B) base 37 w9 v9 (ys ++ defsL true (xs.take (k + 1)))) := by rw [HEQ.out] at hout9; exact hout9
              have HON9 : Hid (Only (fun g => base ≤ g) w w9) := HKR.out.trans (HON6.out.trans ((Only.of_kept ((kept_drewN w1 1).trans HK8.out)).trans hon9))
              clear hout9 hon9 HCA HK8 HEQ HON6 HOUT7 HKK6 HKO2 HG6 y0 z0 y1 z1 y2 z2 y3 z3 y4 z4 y5 z5 y6 z6 y7 z7 y8 z8 y9 z9 y10 z10
              go_wp2_with fail
              go_roundw
              case rel => exact ⟨k + 1, by omega, by go_num, HOUT9.out, HON9.out⟩
              case measure => simp [intOf]; omega
          | true =>
            have HO2 := Lib.hid ((HGR.out.kept (bloK N M) HK1.out).kept (bloK N M) (kept_alloc w1 (.cells #[.int .i64 kind, .int .i64 level, .string (bs info), .string (bs text), .string (bs dest), .string (bs title), .string (bs id), .slice aC cls.length cC, .slice aP prs.length cP, .slice aL line.length cL, .slice aK kids.length cK] 37)))
            have HROW := Lib.hid (Blk.new w1 37 #[.int .i64 kind, .int .i64 level, .string (bs info), .string (bs text), .string (bs dest), .string (bs title), .string (bs id), .slice aC cls.length cC, .slice aP prs.length cP, .slice aL line.length cL, .slice aK kids.length cK])
            have HK2 := Lib.hid (kept_alloc w1 (.cells #[.int .i64 kind, .int .i64 level, .string (bs info), .string (bs text), .string (bs dest), .string (bs title), .string (bs id), .slice aC cls.length cC, .slice aP prs.length cP, .slice aL line.length cL, .slice aK kids.length cK] 37))
            have hvb : ∀ g', (Value.slice ar zs.length cr).ownBlock = some g' → base ≤ g' ∧ g' < wr.heap.size := fun g' q => HGR.out.blk g' q
            have HY2 : Hid (BloK N M (fun g => g < B ∧ (Value.slice ar zs.length cr).ownBlock ≠ some g) (w1.alloc (.cells #[.int .i64 kind, .int .i64 level, .string (bs info), .string (bs text), .string (bs dest), .string (bs title), .string (bs id), .slice aC cls.length cC, .slice aP prs.length cP, .slice aL line.length cL, .slice aK kids.length cK] 37)) (bloC (Blo.mk kind level info text dest title id cls prs line kids) (.slice aC cls.length cC) (.slice aP prs.length cP) (.slice aL line.length cL) (.slice aK kids.length cK)) (Blo.mk kind level info text dest title id cls prs line kids)) := (bloK N M).sam HY.out (Sam.kept (HK1.out.trans HK2.out)) (fun g _ q => ⟨q, fun q2 => by have := hvb g q2; omega⟩)
            have hb2 : base ≤ (w1.alloc (.cells #[.int .i64 kind, .int .i64 level, .string (bs info), .string (bs text), .string (bs dest), .string (bs title), .string (bs id), .slice aC cls.length cC, .slice aP prs.length cP, .slice aL line.length cL, .slice aK kids.length cK] 37)).heap.size := Nat.le_trans hbr (Nat.le_trans HK1.out.size HK2.out.size)
            go_wp2_with (refine wpList_append_out (bloK N M) rfl (.tmp 20) (.tmp 22) 29 rfl i0 _ 192 Try.underlying29 hi hz0 hz1 hz2 rfl (by omega) (by rfl) HO2.out _ _ (Blo.mk kind level info text dest title id cls prs line kids) (by rfl) (fun j u hu => HROW.out.cell j u (by rw [List.getElem?_toArray]; exact hu)) rfl HY2.out (by unfold maxLen; omega) (by omega) hb2 _ rfl ?_; intro g7 c7' w7 hout7 hgrow7 hat7 hlt7; have HGROW := Lib.hid hgrow7; have HAT := Lib.hid hat7; have HOUT7 := Lib.hid hout7; clear hgrow7 hat7 hout7)
            have hong := Only.grown HGROW.out
            have HON6 : Hid (Only (fun g => base ≤ g) wr w7) := (Only.of_kept (HK1.out.trans HK2.out)).trans (hong.mono (fun g' _ q => (hvb g' q.symm).1))
            have hB2 := HB1.out.kept HK2.out
            have HB0 : Hid (Blk w7 I 37 #[.int .i64 kind, .int .i64 level, .string (bs info), .string (bs text), .string (bs dest), .string (bs title), .string (bs id), .slice aC cls.length cC, .slice aP prs.length cP, .slice aL line.length cL, .slice aK kids.length cK]) := by
              show w7.heap[I]? = _
              rw [hong.block I hB2.lt (fun q => by have := (hvb I q.symm).2; have := HII.out; omega)]; exact hB2
            have HKK6 := Lib.hid ((((HKK.out.kept HK1.out).kept HK2.out).sam (Sam.only hong (fun g' _ q q2 => by have := (hvb g' q2.symm).1; omega)) (fun _ _ q => q)).kept (kept_drewN w7 1))
            clear hong hB2 hb2 HY2 HO2 HROW HK2 HK1 HB1 HGR HY HKK HGROW HAT hlt7 c0 c1 c2 c3 c4 c5 c6 c7 c8 c9 c10
            replace HOUT7 : Hid (OutG (BloK N M) 11 (fun g => g < B) base 37 w7 (.slice (some ⟨g7, 0, none⟩) (zs.length + 1) c7') (zs ++ selB (true && true) (Blo.mk kind level info text dest title id cls prs line kids))) := HOUT7
            have HG6 := Lib.hid (HGL.out w7.drew)
            have y0 : w7.cell? ⟨I, 0, none⟩ = some (.int .i64 kind) := (HB0.out).cell 0 _ rfl
            have z0 : w7.drew.cell? ⟨I, 0, none⟩ = some (.int .i64 kind) := (HB0.out).cell 0 _ rfl
            have y1 : w7.cell? ⟨I, 1, none⟩ = some (.int .i64 level) := (HB0.out).cell 1 _ rfl
            have z1 : w7.drew.cell? ⟨I, 1, none⟩ = some (.int .i64 level) := (HB0.out).cell 1 _ rfl
            have y2 : w7.cell? ⟨I, 2, none⟩ = some (.string (bs info)) := (HB0.out).cell 2 _ rfl
            have z2 : w7.drew.cell? ⟨I, 2, none⟩ = some (.string (bs info)) := (HB0.out).cell 2 _ rfl
            have y3 : w7.cell? ⟨I, 3, none⟩ = some (.string (bs text)) := (HB0.out).cell 3 _ rfl
            have z3 : w7.drew.cell? ⟨I, 3, none⟩ = some (.string (bs text)) := (HB0.out).cell 3 _ rfl
            have y4 : w7.cell? ⟨I, 4, none⟩ = some (.string (bs dest)) := (HB0.out).cell 4 _ rfl
            have z4 : w7.drew.cell? ⟨I, 4, none⟩ = some (.string (bs dest)) := (HB0.out).cell 4 _ rfl
            have y5 : w7.cell? ⟨I, 5, none⟩ = some (.string (bs title)) := (HB0.out).cell 5 _ rfl
            have z5 : w7.drew.cell? ⟨I, 5, none⟩ = some (.string (bs title)) := (HB0.out).cell 5 _ rfl
            have y6 : w7.cell? ⟨I, 6, none⟩ = some (.string (bs id)) := (HB0.out).cell 6 _ rfl
            have z6 : w7.drew.cell? ⟨I, 6, none⟩ = some (.string (bs id)) := (HB0.out).cell 6 _ rfl
            have y7 : w7.cell? ⟨I, 7, none⟩ = some (.slice aC cls.length cC) := (HB0.out).cell 7 _ rfl
            have z7 : w7.drew.cell? ⟨I, 7, none⟩ = some (.slice aC cls.length cC) := (HB0.out).cell 7 _ rfl
            have y8 : w7.cell? ⟨I, 8, none⟩ = some (.slice aP prs.length cP) := (HB0.out).cell 8 _ rfl
            have z8 : w7.drew.cell? ⟨I, 8, none⟩ = some (.slice aP prs.length cP) := (HB0.out).cell 8 _ rfl
            have y9 : w7.cell? ⟨I, 9, none⟩ = some (.slice aL line.length cL) := (HB0.out).cell 9 _ rfl
            have z9 : w7.drew.cell? ⟨I, 9, none⟩ = some (.slice aL line.length cL) := (HB0.out).cell 9 _ rfl
            have y10 : w7.cell? ⟨I, 10, none⟩ = some (.slice aK kids.length cK) := (HB0.out).cell 10 _ rfl
            have z10 : w7.drew.cell? ⟨I, 10, none⟩ = some (.slice aK kids.length cK) := (HB0.out).cell 10 _ rfl
            have hZ : base ≤ w7.heap.size := Nat.le_trans hbr HON6.out.size
            have hl9 : (zs ++ selB (true && true) (Blo.mk kind level info text dest title id cls prs line kids)).length + (defsL GG kids).length ≤ 1000000 := by rw [List.length_append]; exact hl7
            clear HGL
            go_region_with (first
              | (go_at_call 46; refine HG6.out.mono ?_; rintro e w8 ⟨rfl, hk8⟩; have HK8 := Lib.hid hk8; have HCA := Lib.hid (HIH.out _ _ GG _ _ w8 (by omega) (HKK6.out.kept hk8) f9 HKO2.out (Nat.le_trans hZ hk8.size) ((HOUT7.out.kept (bloK N M) (kept_drewN w7 1)).kept (bloK N M) hk8) hl9); have x10 : w8.cell? ⟨I, 8 + 2, none⟩ = some (.slice aK kids.length cK) := ((HB0.out.kept (kept_drewN w7 1)).kept hk8).cell 10 _ rfl; clear hk8)
              | (go_at_call 26; refine HCA.out.mono ?_; rintro e w9 ⟨v9, rfl, hout9, hon9⟩))
            all_goals
              have HOUT9 : Hid (OutG (BloK N M) 11 (fun g => g < B) base 37 w9 v9 (ys ++ defsL true (xs.take (k + 1)))) := by rw [HEQ.out] at hout9; exact hout9
              have HON9 : Hid (Only (fun g => base ≤ g) w w9) := HKR.out.trans (HON6.out.trans ((Only.of_kept ((kept_drewN w7 1).trans HK8.out)).trans hon9))
              clear hout9 hon9 HCA HK8 HEQ HON6 HOUT7 HKK6 HKO2 HG6 y0 z0 y1 z1 y2 z2 y3 z3 y4 z4 y5 z5 y6 z6 y7 z7 y8 z8 y9 z9 y10 z10
              go_wp2_with fail
              go_roundw
              case rel => exact ⟨k + 1, by omega, by go_num, HOUT9.out, HON9.out⟩
              case measure => simp [intOf]; omega
      · obtain rfl : k = xs.length := by omega
        have HF := Lib.hid (HFIN.out _ wr HGR.out HKR.out)
        clear HFIN HTK HLE HIH HGR HKR HV HOK HG0
        go_wp2_with fail
        exact HF.out
end Go.Proofs.Ythbnahagfojfbaa

/- A map of words that a literal builds: insertion and look-up. No condition. -/
set_option linter.all false
namespace Go.Proofs.Ythbnahagfojfbaa
open Go.RowKit

/-- A word: its key, its singular, its plural. -/
abbrev Word := Bs × Bs × Bs
def entOf (x : Word) (i : Nat) : MapEntry := { key := .string (bs x.1), val := .agg #[.string (bs x.2.1), .string (bs x.2.2)], born := i }
def entsOf (l : List Word) : Array MapEntry := (l.mapIdx fun i x => entOf x i).toArray
/-- The world with a new map of words. -/
def mapW (w : World) (l : List Word) : World := w.alloc (.map (entsOf l) l.length)
theorem mapW_heap (w : World) (l : List Word) : (mapW w l).heap[w.heap.size]? = some (.map (entsOf l) l.length) := by
  unfold mapW; exact heap_alloc_new w _
theorem entsOf_snoc (l : List Word) (x : Word) : entsOf (l ++ [x]) = (entsOf l).push (entOf x l.length) := by
  unfold entsOf; rw [List.mapIdx_append]; simp
theorem bs_beq (a b : Bs) : (bs a == bs b) = (a == b) := by
  show ((bs a).data == (bs b).data) = _
  rw [Bool.eq_iff_iff, beq_iff_eq, beq_iff_eq]
  exact ⟨fun h => by have := congrArg Array.toList h; exact this, fun h => by rw [h]⟩
theorem findNow_none (k : Bs) : ∀ (l : List Word) (i j : Nat), (∀ x ∈ l, x.1 ≠ k) → Instr.findNow .string (.string (bs k)) (l.mapIdx fun i' x => entOf x (i' + i)) j = some none
  | [], _, _, _ => rfl
  | x :: l, i, j, h => by
    have hx : (bs k == bs x.1) = false := by rw [bs_beq, beq_eq_false_iff_ne]; exact fun e => h x (by simp) e.symm
    rw [List.mapIdx_cons]
    unfold Instr.findNow
    simp only [entOf, Instr.sameNow, hx]
    have := findNow_none k l (i + 1) (j + 1) (fun y hy => h y (by simp [hy]))
    simp only [entOf] at this
    rw [← this]
    congr 1
    apply List.ext_getElem?
    intro m
    simp [List.getElem?_mapIdx]
    cases l[m]? <;> simp; omega
theorem findNow_some (k a b : Bs) : ∀ (l : List Word) (i j : Nat), l.find? (fun x => x.1 == k) = some (k, a, b) → ∃ m, Instr.findNow .string (.string (bs k)) (l.mapIdx fun i' x => entOf x (i' + i)) j = some (some (m, .agg #[.string (bs a), .string (bs b)]))
  | [], _, _, h => by cases h
  | x :: l, i, j, h => by
    rw [List.mapIdx_cons]
    unfold Instr.findNow
    by_cases q : x.1 = k
    · have hx : (bs k == bs x.1) = true := by rw [bs_beq, beq_iff_eq]; exact q.symm
      rw [List.find?_cons_of_pos (by simpa using q)] at h
      cases h
      simp only [entOf, Instr.sameNow, hx]
      exact ⟨_, rfl⟩
    · have hx : (bs k == bs x.1) = false := by rw [bs_beq, beq_eq_false_iff_ne]; exact fun e => q e.symm
      rw [List.find?_cons_of_neg (by simpa using q)] at h
      simp only [entOf, Instr.sameNow, hx]
      obtain ⟨m, hm⟩ := findNow_some k a b l (i + 1) (j + 1) h
      refine ⟨m, ?_⟩
      simp only [entOf] at hm
      rw [← hm]
      congr 1
      apply List.ext_getElem?
      intro m
      simp [List.getElem?_mapIdx]
      cases l[m]? <;> simp; omega
theorem entsOf_list (l : List Word) : (entsOf l).toList = l.mapIdx fun i' x => entOf x (i' + 0) := by simp [entsOf]
theorem run_check (e : Bool) (s : ByteArray) (w : World) : (Instr.checkKey e 10000 9 (.string s)).run Try.prog w = .ok () w := by
  show (Instr.checkKey e (9999 + 1) 9 (.string s)).run Try.prog w = .ok () w
  rw [Instr.checkKey]
  simp only [Sem.run_bind, run_underlying Try.underlying9, Result.andThen]
  simp [Sem.run_pure]
theorem run_find_none (w : World) (l : List Word) (k : Bs) (hk : ∀ x ∈ l, x.1 ≠ k) : (Instr.findKey 9 (.string (bs k)) (entsOf l).toList).run Try.prog w = .ok none w := by
  unfold Instr.findKey
  simp only [Sem.run_bind, run_underlying Try.underlying9, Result.andThen, entsOf_list, findNow_none k l 0 0 hk]
  simp [Sem.run_pure]
theorem run_find_some (w : World) (l : List Word) (k a b : Bs) (hk : l.find? (fun x => x.1 == k) = some (k, a, b)) : ∃ m, (Instr.findKey 9 (.string (bs k)) (entsOf l).toList).run Try.prog w = .ok (some (m, .agg #[.string (bs a), .string (bs b)])) w := by
  obtain ⟨m, hm⟩ := findNow_some k a b l 0 0 hk
  refine ⟨m, ?_⟩
  unfold Instr.findKey
  simp only [Sem.run_bind, run_underlying Try.underlying9, Result.andThen, entsOf_list, hm]
  simp [Sem.run_pure]
theorem mapW_set (w : World) (l : List Word) (x : Word) : { mapW w l with heap := (mapW w l).heap.setIfInBounds w.heap.size (.map ((entsOf l).push (entOf x l.length)) (l.length + 1)) } = mapW w (l ++ [x]) := by
  unfold mapW
  rw [entsOf_snoc]
  simp only [World.alloc, List.length_append, List.length_cons, List.length_nil]
  congr 1
  apply Array.ext'
  simp [Array.setIfInBounds, Array.toList_push]
end Go.Proofs.Ythbnahagfojfbaa

/- A set of texts that a call makes in memory: insertion and look-up. No condition. -/
set_option linter.all false
namespace Go.Proofs.Ythbnahagfojfbaa
open Go.RowKit

def entK (k : Bs) (i : Nat) : MapEntry := { key := .string (bs k), val := .bool true, born := i }
def entsK (ks : List Bs) : Array MapEntry := (ks.mapIdx fun i k => entK k i).toArray
/-- Block m is the map of the keys ks. -/
def MapK (w : World) (m : Nat) (ks : List Bs) : Prop := w.heap[m]? = some (.map (entsK ks) ks.length)
/-- The world with another map of keys in block m. -/
def putK (w : World) (m : Nat) (ks : List Bs) : World := { w with heap := w.heap.setIfInBounds m (.map (entsK ks) ks.length) }
theorem MapK.lt {w : World} {m : Nat} {ks : List Bs} (h : MapK w m ks) : m < w.heap.size := by
  rcases Nat.lt_or_ge m w.heap.size with q | q
  · exact q
  · unfold MapK at h; rw [Array.getElem?_eq_none q] at h; cases h
theorem MapK.only {S : Nat → Prop} {w w' : World} {m : Nat} {ks : List Bs} (h : MapK w m ks) (k : Only S w w') (hs : ¬ S m) : MapK w' m ks := by
  unfold MapK at h ⊢; rw [k.block m (MapK.lt h) hs]; exact h
theorem putK_map (w : World) (m : Nat) (ks : List Bs) (hm : m < w.heap.size) : MapK (putK w m ks) m ks := by
  unfold MapK putK; simp [hm]
theorem putK_only (w : World) (m : Nat) (ks : List Bs) : Only (fun i => i = m) w (putK w m ks) :=
  ⟨rfl, rfl, rfl, by simp [putK], fun k hk hs => by simp [putK, Array.getElem?_setIfInBounds, Ne.symm hs]⟩
theorem putK_size (w : World) (m : Nat) (ks : List Bs) : (putK w m ks).heap.size = w.heap.size := by simp [putK]
theorem entsK_snoc (ks : List Bs) (k : Bs) : entsK (ks ++ [k]) = (entsK ks).push (entK k ks.length) := by
  unfold entsK; rw [List.mapIdx_append]; simp
theorem findK_none (k : Bs) : ∀ (l : List Bs) (i j : Nat), k ∉ l → Instr.findNow .string (.string (bs k)) (l.mapIdx fun i' x => entK x (i' + i)) j = some none
  | [], _, _, _ => rfl
  | x :: l, i, j, h => by
    have hx : (bs k == bs x) = false := by rw [bs_beq, beq_eq_false_iff_ne]; exact fun e => h (by simp [e])
    rw [List.mapIdx_cons]
    unfold Instr.findNow
    simp only [entK, Instr.sameNow, hx]
    have := findK_none k l (i + 1) (j + 1) (fun e => h (by simp [e]))
    simp only [entK] at this
    rw [← this]
    congr 1
    apply List.ext_getElem?
    intro m
    simp [List.getElem?_mapIdx]
    cases l[m]? <;> simp; omega
theorem findK_some (k : Bs) : ∀ (l : List Bs) (i j : Nat), k ∈ l → ∃ m, Instr.findNow .string (.string (bs k)) (l.mapIdx fun i' x => entK x (i' + i)) j = some (some (m, .bool true))
  | [], _, _, h => by cases h
  | x :: l, i, j, h => by
    rw [List.mapIdx_cons]
    unfold Instr.findNow
    by_cases q : x = k
    · have hx : (bs k == bs x) = true := by rw [bs_beq, beq_iff_eq]; exact q.symm
      simp only [entK, Instr.sameNow, hx]
      exact ⟨_, rfl⟩
    · have hx : (bs k == bs x) = false := by rw [bs_beq, beq_eq_false_iff_ne]; exact fun e => q e.symm
      have hl : k ∈ l := by rcases List.mem_cons.1 h with e | e; exact absurd e.symm q; exact e
      simp only [entK, Instr.sameNow, hx]
      obtain ⟨m, hm⟩ := findK_some k l (i + 1) (j + 1) hl
      refine ⟨m, ?_⟩
      simp only [entK] at hm
      rw [← hm]
      congr 1
      apply List.ext_getElem?
      intro m
      simp [List.getElem?_mapIdx]
      cases l[m]? <;> simp; omega
theorem entsK_list (l : List Bs) : (entsK l).toList = l.mapIdx fun i' x => entK x (i' + 0) := by simp [entsK]
theorem runK_none (w : World) (l : List Bs) (k : Bs) (hk : k ∉ l) : (Instr.findKey 9 (.string (bs k)) (entsK l).toList).run Try.prog w = .ok none w := by
  unfold Instr.findKey
  simp only [Sem.run_bind, run_underlying Try.underlying9, Result.andThen, entsK_list, findK_none k l 0 0 hk]
  simp [Sem.run_pure]
theorem runK_some (w : World) (l : List Bs) (k : Bs) (hk : k ∈ l) : ∃ m, (Instr.findKey 9 (.string (bs k)) (entsK l).toList).run Try.prog w = .ok (some (m, .bool true)) w := by
  obtain ⟨m, hm⟩ := findK_some k l 0 0 hk
  refine ⟨m, ?_⟩
  unfold Instr.findKey
  simp only [Sem.run_bind, run_underlying Try.underlying9, Result.andThen, entsK_list, hm]
  simp [Sem.run_pure]
theorem MapK_kept {w w' : World} {m : Nat} {ks : List Bs} (h : MapK w m ks) (k : Kept w w') : MapK w' m ks := h.only (Only.of_kept (S := fun _ => False) k) (fun q => q)
theorem MapK_made (w : World) : MapK (w.alloc (.map #[] 0)) w.heap.size [] := heap_alloc_new w _
theorem zero_bool (w : World) : (zeroValue 4).run Try.prog w = .ok (.bool false) w := by kernel_rfl
theorem lookK (w : World) (m : Nat) (ks : List Bs) (k : Bs) (h : MapK w m ks) : (Instr.lookup 66 (.map (some m)) (.string (bs k)) false).run Try.prog w = .ok (.bool (ks.contains k)) w := by
  have hu : Try.prog.underlying 66 = some (.map 9 4) := Try.underlying66
  unfold MapK at h
  unfold Instr.lookup
  simp only [Sem.run_bind, run_underlying hu, Result.andThen]
  by_cases hk : k ∈ ks
  · obtain ⟨j, hf⟩ := runK_some w ks k hk
    have hc : ks.contains k = true := by simpa using hk
    simp only [getObj, Sem.run_bind, Sem.run, h, Result.andThen, Sem.run_pure, run_check, hf, hc]
    simp [Sem.run_pure]
  · have hf := runK_none w ks k hk
    have hc : ks.contains k = false := by simpa using hk
    simp only [getObj, Sem.run_bind, Sem.run, h, Result.andThen, Sem.run_pure, run_check, hf, hc, zero_bool]
    simp [Sem.run_pure]
theorem insK (w : World) (m : Nat) (ks : List Bs) (k : Bs) (h : MapK w m ks) (hk : k ∉ ks) : (Instr.mapUpdate 66 (.map (some m)) (.string (bs k)) (.bool true)).run Try.prog w = .ok () (putK w m (ks ++ [k])) := by
  have hu : Try.prog.underlying 66 = some (.map 9 4) := Try.underlying66
  unfold MapK at h
  unfold Instr.mapUpdate
  simp only [Sem.run_bind, run_underlying hu, Result.andThen]
  simp only [getObj, Sem.run_bind, Sem.run, h, Result.andThen, Sem.run_pure, run_check, runK_none _ ks k hk, setObj]
  refine congrArg (Result.ok ()) ?_
  unfold putK
  rw [entsK_snoc]
  simp [entK]
end Go.Proofs.Ythbnahagfojfbaa
