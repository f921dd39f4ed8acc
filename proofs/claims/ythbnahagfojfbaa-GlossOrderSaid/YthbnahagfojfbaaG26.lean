/- The survey in plain Lean. No condition. -/
import Derived.Test.YthbnahagfojfbaaG21
import Derived.Test.YthbnahagfojfbaaG14
import Derived.BigQuiet
import Derived.Deep.RegionLaw
import Derived.Deep.RegionWith

set_option linter.all false
namespace Go.Proofs.Ythbnahagfojfbaa
open Go.RowKit

structure St where
  ns : List Bs
  us : List Inl
  ids : List Bs
def tmS (ins : Bool) (x : Blo) : Bool := ins && isTm x
/-- The definition that a block is in. -/
def withinS (inn : Int) (ins : Bool) (x : Blo) (st : St) : Int := match tmS ins x with | true => st.ns.length | false => inn
def nsS (ins : Bool) (x : Blo) (st : St) : List Bs := match tmS ins x with | true => st.ns ++ [defName x] | false => st.ns
def idsS (inn : Int) (ins : Bool) (x : Blo) (st : St) : List Bs := match (x.id == []), decide (withinS inn ins x st = -1) with | false, false => st.ids ++ [x.id] | _, _ => st.ids
def stepS (inn : Int) (ins : Bool) (x : Blo) (st : St) : St := ⟨nsS ins x st, st.us ++ (deepL x.line).filter isUse, idsS inn ins x st⟩
/-- What the walk of the survey asks of a block. -/
def condS (inn : Int) (ins : Bool) (x : Blo) (st : St) : Prop :=
  (tmS ins x = true → inn = -1 ∧ defName x ∉ st.ns) ∧ x.kind ≠ 14 ∧ (x.id ≠ [] → withinS inn ins x st ≠ -1 → x.id ∉ st.ids) ∧ (∀ y ∈ deepL x.line, quietI y) ∧ (withinS inn ins x st ≠ -1 → (deepL x.line).filter isUse = []) ∧ st.ns.length ≤ 1000000 ∧ st.us.length + (deepL x.line).length ≤ 1000000 ∧ x.prs.length ≤ 1000000
mutual
def sv1 (inn : Int) (ins : Bool) : Blo → St → St
  | .mk kind level info text dest title id cls prs line kids, st => svL (withinS inn ins (.mk kind level info text dest title id cls prs line kids) st) (isGl (.mk kind level info text dest title id cls prs line kids)) kids (stepS inn ins (.mk kind level info text dest title id cls prs line kids) st)
def svL (inn : Int) (ins : Bool) : List Blo → St → St
  | [], st => st
  | x :: xs, st => svL inn ins xs (sv1 inn ins x st)
end
mutual
def okS1 (inn : Int) (ins : Bool) : Blo → St → Prop
  | .mk kind level info text dest title id cls prs line kids, st => condS inn ins (.mk kind level info text dest title id cls prs line kids) st ∧ okSL (withinS inn ins (.mk kind level info text dest title id cls prs line kids) st) (isGl (.mk kind level info text dest title id cls prs line kids)) kids (stepS inn ins (.mk kind level info text dest title id cls prs line kids) st)
def okSL (inn : Int) (ins : Bool) : List Blo → St → Prop
  | [], _ => True
  | x :: xs, st => okS1 inn ins x st ∧ okSL inn ins xs (sv1 inn ins x st)
end
theorem sv1_eq (inn : Int) (ins : Bool) (x : Blo) (st : St) : sv1 inn ins x st = svL (withinS inn ins x st) (isGl x) x.kids (stepS inn ins x st) := by cases x; rfl
theorem okS1_eq (inn : Int) (ins : Bool) (x : Blo) (st : St) : okS1 inn ins x st = (condS inn ins x st ∧ okSL (withinS inn ins x st) (isGl x) x.kids (stepS inn ins x st)) := by cases x; rfl
theorem svL_app (inn : Int) (ins : Bool) : ∀ (xs ys : List Blo) (st : St), svL inn ins (xs ++ ys) st = svL inn ins ys (svL inn ins xs st)
  | [], _, _ => rfl
  | x :: xs, ys, st => svL_app inn ins xs ys (sv1 inn ins x st)
theorem svL_take {inn : Int} {ins : Bool} {xs : List Blo} {k : Nat} {x : Blo} (h : xs[k]? = some x) (st : St) : svL inn ins (xs.take (k + 1)) st = sv1 inn ins x (svL inn ins (xs.take k) st) := by
  rw [take_snoc h, svL_app]; rfl
theorem okSL_at {inn : Int} {ins : Bool} : ∀ {xs : List Blo} {st : St} (_ : okSL inn ins xs st) (k : Nat) (x : Blo), xs[k]? = some x → okS1 inn ins x (svL inn ins (xs.take k) st)
  | [], _, _, _, _, h => by cases h
  | y :: ys, st, hk, 0, x, h => by cases h; exact hk.1
  | y :: ys, st, hk, k + 1, x, h => okSL_at hk.2 k x (by simpa using h)
theorem okSL_app {inn : Int} {ins : Bool} : ∀ {xs ys : List Blo} {st : St}, okSL inn ins xs st → okSL inn ins ys (svL inn ins xs st) → okSL inn ins (xs ++ ys) st
  | [], _, _, _, h => h
  | _ :: _, _, _, h, h' => ⟨h.1, okSL_app h.2 h'⟩
end Go.Proofs.Ythbnahagfojfbaa

/- survey.line: the uses in a line. Conditions: lengths; no identifiers, no references. -/
set_option linter.all false
namespace Go.Proofs.Ythbnahagfojfbaa
open Go.RowKit

theorem zero_inls (w : World) : (zeroValue 30).run Try.prog w = .ok (.slice none 0 0) w := by kernel_rfl
def LinP (N D B : Nat) (ns : List Bs) (us : List Inl) (ids : List Bs) (w : World) (e : Ending) (w' : World) : Prop := e = .returned (.tuple #[]) ∧ SvI N D B ns us ids w' ∧ FrB B w w'
theorem filt_take {xs : List Inl} {k : Nat} {x : Inl} (h : xs[k]? = some x) : (deepL (xs.take (k + 1))).filter isUse = (deepL (xs.take k)).filter isUse ++ ((if isUse x = true then [x] else []) ++ (deepL x.kids).filter isUse) := by
  rw [deepL_take h, List.filter_append, deep1_eq, List.filter_cons]
  cases isUse x <;> rfl
def selI (b : Bool) (x : Inl) : List Inl := match b with | true => [x] | false => []
set_option maxRecDepth 100000 in
set_option maxHeartbeats 12800000 in
theorem line_any (N D B : Nat) (hD : D ≤ B) : ∀ (n : Nat) (xs : List Inl) (v : Value) (inn within : Int) (ns : List Bs) (us : List Inl) (ids : List Bs) (w : World), n ≤ N + 1 → Lns (fun g => g < D) n w v xs → xs.length ≤ 1000000 → okIL xs → (∀ x ∈ deepL xs, quietI x) → (within ≠ -1 → (deepL xs).filter isUse = []) → us.length + (deepL xs).length ≤ 1000000 → B + 6 ≤ w.heap.size → SvI N D B ns us ids w →
    Calls Try.prog 57 #[.pointer (some ⟨B + 5, 0, none⟩), v, .int .i64 inn, .int .i64 within] w (LinP N D B ns (us ++ (deepL xs).filter isUse) ids w) := by
  intro n
  induction n with
  | zero =>
    intro xs v inn within ns us ids w hN hv hl hok hq hw hlen hb hs
    obtain rfl := hv.no
    obtain ⟨a, c, rfl, hc⟩ := hv.form
    have HFIN : LinP N D B ns (us ++ (deepL []).filter isUse) ids w (.returned (.tuple #[])) w := ⟨rfl, by show SvI N D B ns (us ++ []) ids w; rw [List.append_nil]; exact hs, FrB.of_kept (Kept.refl w)⟩
    clear hv hok hq hw hlen hs
    go_enter Try.func57, Try.ntmps57
    go_wp2_with fail
    go_loopw [12] (fun i wr => i = .int .i64 0 ∧ w = wr) (fun i _ => 1)
    case atStart => exact ⟨rfl, rfl⟩
    case round =>
      obtain ⟨rfl, rfl⟩ := hrel
      go_wp2_with fail
      (try simp only [Exit.inBlock, Exit.then]); (try refine bodyPost_ret (results_none rfl _ _ _) rfl ?_)
      exact HFIN
  | succ n ih =>
    intro xs v inn within ns us ids w hN hv hl hok hq hw hlen hb hs
    have HV := Lib.hid hv
    have HOK := Lib.hid hok
    have HQ := Lib.hid hq
    have HW := Lib.hid hw
    have HS0 : Hid (SvI N D B ns (us ++ (deepL (xs.take 0)).filter isUse) ids w) := by show SvI N D B ns (us ++ []) ids w; rw [List.append_nil]; exact hs
    have HFIN : Hid (∀ w', SvI N D B ns (us ++ (deepL (xs.take xs.length)).filter isUse) ids w' → FrB B w w' → LinP N D B ns (us ++ (deepL xs).filter isUse) ids w (.returned (.tuple #[])) w') := fun w' h1 h2 => ⟨rfl, by rw [List.take_length] at h1; exact h1, h2⟩
    have HLE := Lib.hid (deepL_le xs)
    have HTL : Hid (∀ (k : Nat) (x : Inl), xs[k]? = some x → (deepL (xs.take (k + 1))).length = (deepL (xs.take k)).length + 1 + (deepL x.kids).length) := fun k x h => by rw [deepL_take h, deep1_eq, List.length_append, List.length_cons]; omega
    have HTK : Hid (∀ (k : Nat) (x : Inl), xs[k]? = some x → (deepL (xs.take (k + 1))).filter isUse = (deepL (xs.take k)).filter isUse ++ (selI (isUse x) x ++ (deepL x.kids).filter isUse)) := fun k x h => by rw [filt_take h]; unfold selI; cases isUse x <;> rfl
    have HFL : Hid (∀ k, ((deepL (xs.take k)).filter isUse).length ≤ (deepL (xs.take k)).length) := fun k => List.length_filter_le _ _
    have HIH := Lib.hid ih
    unfold LinP at HIH
    obtain ⟨i0, hi, hz0, hz1, hz2⟩ := info_parts Try.infoIn
    obtain ⟨a, c, rfl, hc⟩ := hv.form
    generalize hP : LinP N D B ns (us ++ (deepL xs).filter isUse) ids w = P at *
    clear hP hv hok hs ih hq hw
    go_enter Try.func57, Try.ntmps57
    go_wp2_with fail
    go_loopw [12] (fun i wr => ∃ (k : Nat), k ≤ xs.length ∧ i = .int .i64 k ∧ Hid (SvI N D B ns (us ++ (deepL (xs.take k)).filter isUse) ids wr) ∧ Hid (FrB B w wr)) (fun i _ => xs.length - (intOf i).toNat)
    case atStart => exact ⟨0, Nat.zero_le _, rfl, HS0.out, FrB.of_kept (Kept.refl w)⟩
    case round =>
      obtain ⟨k, hk, rfl, HSR, HKR⟩ := hrel
      have hbr : B + 6 ≤ wr.heap.size := Nat.le_trans hb HKR.out.size
      by_cases hlt : k < xs.length
      · obtain ⟨x, hx⟩ : ∃ x, xs[k]? = some x := ⟨_, List.getElem?_eq_getElem hlt⟩
        have HVR := Lib.hid (HV.out.sam (Sam.only HKR.out.only (fun g _ h q => by omega)) (fun g _ h => h))
        have hfit := (okIL_at HOK.out x (List.mem_of_getElem? hx)).fit
        obtain ⟨hm1, hm2⟩ := deepL_mem (List.mem_of_getElem? hx)
        have hqx := HQ.out x hm1
        have hqk := Lib.hid (fun y hy => HQ.out y (hm2 y hy))
        have hle := HLE.out (k + 1)
        have hle2 := HTL.out k x hx
        have hle3 := HFL.out k
        have HT := Lib.hid (HTK.out k x hx)
        have hwu : within ≠ -1 → isUse x = false ∧ (deepL x.kids).filter isUse = [] := fun h => by
          have h1 := HW.out h
          rw [List.filter_eq_nil_iff] at h1
          exact ⟨by simpa using h1 x hm1, List.filter_eq_nil_iff.2 (fun y hy => h1 y (hm2 y hy))⟩
        have HWU := Lib.hid hwu
        obtain ⟨g, o, vC, vP, vA, vT, vK, rfl, hgg, hgS, -, -, ⟨d0, d1, d2, d3, d4, d5, d6, d7, d8, d9⟩, -, ⟨hC, iC⟩, ⟨hPP, iP⟩, ⟨hA, iA⟩, hTT, hK⟩ := Lns.at_ HVR.out k x hx
        obtain ⟨kind, text, dest, title, id, cls, prs, args, cits, kids⟩ := x
        unfold quietI at hqx
        simp only [Inl.kind, Inl.text, Inl.dest, Inl.title, Inl.id, Inl.cls, Inl.prs, Inl.args, Inl.cits, Inl.kids] at d0 d1 d2 d3 d4 hC iC hPP iP hA iA hTT hK hfit hqx hqk HT HWU hle2 hm2
        obtain ⟨⟨f1, f2, f3, f4, f5, f6, f7, f8, f9⟩, f10⟩ := hfit
        obtain ⟨rfl, n14, n9, n12⟩ := hqx
        have HY : Hid (InlK N (fun g => g < D) wr (inlC (Inl.mk kind text dest title [] cls prs args cits kids) vC vP vA vT vK) (Inl.mk kind text dest title [] cls prs args cits kids)) := ⟨vC, vP, vA, vT, vK, rfl, ⟨hC, iC⟩, ⟨hPP, iP⟩, ⟨hA, iA⟩, hTT, hK.ups (by omega)⟩
        obtain ⟨aC, cC, rfl, lC⟩ := hC.shape
        obtain ⟨aP, cP, rfl, lP⟩ := hPP.shape
        obtain ⟨aA, cA, rfl, lA⟩ := hA.shape
        obtain ⟨aT, cT, rfl, lT⟩ := hTT.form
        obtain ⟨aK, cK, rfl, lK⟩ := hK.form
        have HKK := Lib.hid hK
        have HKO := Lib.hid f10
        have HB0 := Lib.hid (Blk.new wr 41 #[.int .i64 kind, .string (bs text), .string (bs dest), .string (bs title), .string (bs []), .slice aC cls.length cC, .slice aP prs.length cP, .slice aA args.length cA, .slice aT cits.length cT, .slice aK kids.length cK])
        have HKI := Lib.hid (kept_alloc wr (.cells #[.int .i64 kind, .string (bs text), .string (bs dest), .string (bs title), .string (bs []), .slice aC cls.length cC, .slice aP prs.length cP, .slice aA args.length cA, .slice aT cits.length cT, .slice aK kids.length cK] 41))
        have HISU := Lib.hid (fun w h => isuse_any kind text dest title [] (.slice aC cls.length cC) (.slice aP prs.length cP) (.slice aA args.length cA) (.slice aT cits.length cT) (.slice aK kids.length cK) cls w h (by omega) rfl rfl rfl rfl)
        rw [← isUse_mk kind text dest title [] cls prs args cits kids] at HISU
        have HC := Lib.hid hC
        obtain ⟨I, HI⟩ : ∃ I, Hid (wr.heap.size = I) := ⟨_, rfl⟩
        have hIb : B + 6 ≤ I := by rw [← HI.out]; exact hbr
        obtain ⟨zs, HZS⟩ : ∃ zs, Hid (us ++ (deepL (xs.take k)).filter isUse = zs) := ⟨_, rfl⟩
        have hzl : zs.length ≤ us.length + (deepL (xs.take k)).length := by rw [← HZS.out, List.length_append]; omega
        rw [HZS.out] at HSR
        have HEQ : Hid (us ++ (deepL (xs.take (k + 1))).filter isUse = zs ++ selI (isUse (Inl.mk kind text dest title [] cls prs args cits kids)) (Inl.mk kind text dest title [] cls prs args cits kids) ++ (deepL kids).filter isUse) := by
          show _ = _
          rw [HT.out, ← HZS.out]; simp
        obtain ⟨U, HU⟩ : ∃ U, Hid (isUse (Inl.mk kind text dest title [] cls prs args cits kids) = U) := ⟨_, rfl⟩
        rw [HU.out] at HISU HEQ HWU
        have q14 : (kind == 14) = false := by simpa using n14
        have q9 : (kind == 9) = false := by simpa using n9
        have q12 : (kind == 12) = false := by simpa using n12
        clear hC iC hPP iP hA iA hTT hK f10 hx HTK HTL HFL HLE HV HVR HFIN hle3 n14 n9 n12 hm1 hm2 HQ HW HT HZS HU HS0 hwu
        go_wp2_with fail
        generalize wr.alloc _ = w1 at *
        rw [HI.out] at HB0 ⊢
        obtain ⟨v1, v2, v3, esN, esI, hJ0⟩ := HSR.out
        have hv3I : v3.ownBlock ≠ some I := fun q => by have := (hJ0.wants.blk I q).2; have := HI.out; omega
        have hJ := hJ0.kept HKI.out
        clear hJ0
        have HJ := Lib.hid hJ
        have y2 : w1.cell? ⟨B + 5, 2, none⟩ = some (.map (some (B + 1))) := hJ.blk.cell 2 _ rfl
        have y4 : w1.cell? ⟨B + 5, 4, none⟩ = some (.map (some (B + 3))) := hJ.blk.cell 4 _ rfl
        have zY := hJ.blk.lt
        have c0 : w1.cell? ⟨I, 0, none⟩ = some (.int .i64 kind) := (HB0.out).cell 0 _ rfl
        have c1_ : w1.cell? ⟨I, 1, none⟩ = some (.string (bs text)) := (HB0.out).cell 1 _ rfl
        have c2 : w1.cell? ⟨I, 2, none⟩ = some (.string (bs dest)) := (HB0.out).cell 2 _ rfl
        have c3 : w1.cell? ⟨I, 3, none⟩ = some (.string (bs title)) := (HB0.out).cell 3 _ rfl
        have c4 : w1.cell? ⟨I, 4, none⟩ = some (.string (bs [])) := (HB0.out).cell 4 _ rfl
        have c5 : w1.cell? ⟨I, 5, none⟩ = some (.slice aC cls.length cC) := (HB0.out).cell 5 _ rfl
        have c6 : w1.cell? ⟨I, 6, none⟩ = some (.slice aP prs.length cP) := (HB0.out).cell 6 _ rfl
        have c7 : w1.cell? ⟨I, 7, none⟩ = some (.slice aA args.length cA) := (HB0.out).cell 7 _ rfl
        have c8 : w1.cell? ⟨I, 8, none⟩ = some (.slice aT cits.length cT) := (HB0.out).cell 8 _ rfl
        have c9 : w1.cell? ⟨I, 9, none⟩ = some (.slice aK kids.length cK) := (HB0.out).cell 9 _ rfl
        clear hJ d0 d1 d2 d3 d4 d5 d6 d7 d8 d9
        go_quiet (first | (go_at_call 56; refine Calls.quiet_of_same (note_no _ _ _ _)))
        go_wp2_with fail
        refine (HISU.out _ ((HC.out.kept HKI.out).kept (kept_drewN w1 _))).mono ?_
        rintro e w3 ⟨rfl, hk3⟩
        have HK3 := Lib.hid ((kept_drewN w1 _).trans hk3)
        have HB3 := Lib.hid (HB0.out.kept HK3.out)
        have HJ3 := Lib.hid (HJ.out.kept HK3.out)
        have HKK3 := Lib.hid (HKK.out.kept (HKI.out.trans HK3.out))
        have HY3 := Lib.hid ((inlK N).sam HY.out (Sam.kept (HKI.out.trans HK3.out)) (fun _ _ q => q))
        have HON3 : Hid (FrB B w w3) := HKR.out.trans (FrB.of_kept (HKI.out.trans HK3.out))
        clear hk3 HISU HC HJ HK3 HKI HB0 HKK HY HSR y2 y4 zY c0 c1_ c2 c3 c4 c5 c6 c7 c8 c9 HKR
        have c0 : w3.cell? ⟨I, 0, none⟩ = some (.int .i64 kind) := (HB3.out).cell 0 _ rfl
        have c1_ : w3.cell? ⟨I, 1, none⟩ = some (.string (bs text)) := (HB3.out).cell 1 _ rfl
        have c2 : w3.cell? ⟨I, 2, none⟩ = some (.string (bs dest)) := (HB3.out).cell 2 _ rfl
        have c3 : w3.cell? ⟨I, 3, none⟩ = some (.string (bs title)) := (HB3.out).cell 3 _ rfl
        have c4 : w3.cell? ⟨I, 4, none⟩ = some (.string (bs [])) := (HB3.out).cell 4 _ rfl
        have c5 : w3.cell? ⟨I, 5, none⟩ = some (.slice aC cls.length cC) := (HB3.out).cell 5 _ rfl
        have c6 : w3.cell? ⟨I, 6, none⟩ = some (.slice aP prs.length cP) := (HB3.out).cell 6 _ rfl
        have c7 : w3.cell? ⟨I, 7, none⟩ = some (.slice aA args.length cA) := (HB3.out).cell 7 _ rfl
        have c8 : w3.cell? ⟨I, 8, none⟩ = some (.slice aT cits.length cT) := (HB3.out).cell 8 _ rfl
        have c9 : w3.cell? ⟨I, 9, none⟩ = some (.slice aK kids.length cK) := (HB3.out).cell 9 _ rfl
        cases U with
        | false =>
          have HS4 : Hid (SvI N D B ns (zs ++ selI false (Inl.mk kind text dest title [] cls prs args cits kids)) ids w3) := by show SvI N D B ns (zs ++ []) ids w3; rw [List.append_nil]; exact ⟨_, _, _, _, _, HJ3.out⟩
          have hl4 : (zs ++ selI false (Inl.mk kind text dest title [] cls prs args cits kids)).length + (deepL kids).length ≤ 1000000 := by show (zs ++ []).length + _ ≤ _; rw [List.append_nil]; omega
          have HCALL := Lib.hid (HIH.out kids (.slice aK kids.length cK) inn within ns _ ids w3 (by omega) HKK3.out f9 HKO.out hqk.out (fun h => (HWU.out h).2) hl4 (Nat.le_trans hb HON3.out.size) HS4.out)
          clear HIH HS4 HJ3 HKK3 HY3 HKO hqk HWU
          go_wp2_with fail
          refine HCALL.out.mono ?_
          rintro e w5 ⟨rfl, hs5, hon5⟩
          have HS5 : Hid (SvI N D B ns (us ++ (deepL (xs.take (k + 1))).filter isUse) ids w5) := by rw [HEQ.out]; exact hs5
          have HON5 := Lib.hid (HON3.out.trans hon5)
          clear hs5 hon5 HEQ HCALL HB3 c0 c1_ c2 c3 c4 c5 c6 c7 c8 c9 HON3
          go_wp2_with fail
          go_roundw
          case rel => exact ⟨k + 1, by omega, by go_num, HS5.out, HON5.out⟩
          case measure => simp [intOf]; omega
        | true =>
          have hwi : within = -1 := Decidable.byContradiction fun h => by have := (HWU.out h).1; cases this
          subst hwi
          have hJ := HJ3.out
          have y2 : w3.cell? ⟨B + 5, 2, none⟩ = some (.map (some (B + 1))) := hJ.blk.cell 2 _ rfl
          have y2' : w3.drew.cell? ⟨B + 5, 2, none⟩ = some (.map (some (B + 1))) := hJ.blk.cell 2 _ rfl
          have zY := hJ.blk.lt
          have zI := HB3.out.lt
          have e0 : w3.drew.cell? ⟨I, 0, none⟩ = some (.int .i64 kind) := (HB3.out).cell 0 _ rfl
          have e1 : w3.drew.cell? ⟨I, 1, none⟩ = some (.string (bs text)) := (HB3.out).cell 1 _ rfl
          have e2 : w3.drew.cell? ⟨I, 2, none⟩ = some (.string (bs dest)) := (HB3.out).cell 2 _ rfl
          have e3 : w3.drew.cell? ⟨I, 3, none⟩ = some (.string (bs title)) := (HB3.out).cell 3 _ rfl
          have e4 : w3.drew.cell? ⟨I, 4, none⟩ = some (.string (bs [])) := (HB3.out).cell 4 _ rfl
          have e5 : w3.drew.cell? ⟨I, 5, none⟩ = some (.slice aC cls.length cC) := (HB3.out).cell 5 _ rfl
          have e6 : w3.drew.cell? ⟨I, 6, none⟩ = some (.slice aP prs.length cP) := (HB3.out).cell 6 _ rfl
          have e7 : w3.drew.cell? ⟨I, 7, none⟩ = some (.slice aA args.length cA) := (HB3.out).cell 7 _ rfl
          have e8 : w3.drew.cell? ⟨I, 8, none⟩ = some (.slice aT cits.length cT) := (HB3.out).cell 8 _ rfl
          have e9 : w3.drew.cell? ⟨I, 9, none⟩ = some (.slice aK kids.length cK) := (HB3.out).cell 9 _ rfl
          have hlk : ∀ w', Kept w3 w' → (Instr.lookup 88 (.map (some (B + 1))) (.int .i64 (-1)) false).run Try.prog w' = .ok v3 w' := fun w' hk => by
            have h1 := lookV (P := Try.prog) Try.underlying88 Try.underlying3 w' (B + 1) (wantsE v3 zs) (-1) _ (zero_inls w') (hJ.mw.kept hk)
            rw [h1]
            cases hz : zs with
            | nil => rw [hJ.nil hz]; rfl
            | cons z t => rfl
          have lk0 := hlk w3.drew (kept_drewN w3 1)
          have lk1 := hlk ((w3.alloc (.cells #[.int .i64 kind, .string (bs text), .string (bs dest), .string (bs title), .string (bs []), .slice aC cls.length cC, .slice aP prs.length cP, .slice aA args.length cA, .slice aT cits.length cT, .slice aK kids.length cK] 41)).drew) ((kept_alloc w3 _).trans (kept_drewN _ 1))
          have hup : ∀ w7 v7, MapV w7 (B + 1) (wantsE v3 zs) → (Instr.mapUpdate 88 (.map (some (B + 1))) (.int .i64 (-1)) v7).run Try.prog w7 = .ok () (putV w7 (B + 1) [(-1, v7)]) := fun w7 v7 h => by
            cases hz : zs with
            | nil =>
              rw [hz] at h
              exact insV (P := Try.prog) Try.underlying88 Try.underlying3 w7 (B + 1) [] (-1) v7 h rfl
            | cons z t =>
              rw [hz] at h
              exact overV1 (P := Try.prog) Try.underlying88 Try.underlying3 w7 (B + 1) (-1) v7 v3 h
          have HUP := Lib.hid hup
          have HROW := Lib.hid ((Blk.new w3 41 #[.int .i64 kind, .string (bs text), .string (bs dest), .string (bs title), .string (bs []), .slice aC cls.length cC, .slice aP prs.length cP, .slice aA args.length cA, .slice aT cits.length cT, .slice aK kids.length cK]).kept (kept_drewN _ 1))
          have hk4 : Kept w3 ((w3.alloc (.cells #[.int .i64 kind, .string (bs text), .string (bs dest), .string (bs title), .string (bs []), .slice aC cls.length cC, .slice aP prs.length cP, .slice aA args.length cA, .slice aT cits.length cT, .slice aK kids.length cK] 41)).drew) := (kept_alloc w3 _).trans (kept_drewN _ 1)
          have HJ4 := Lib.hid (hJ.kept hk4)
          have hvb : ∀ g', v3.ownBlock = some g' → B + 6 ≤ g' ∧ g' < w3.heap.size := fun g' q => hJ.wants.blk g' q
          have HY4 : Hid (InlK N (fun g => g < D ∧ v3.ownBlock ≠ some g) ((w3.alloc (.cells #[.int .i64 kind, .string (bs text), .string (bs dest), .string (bs title), .string (bs []), .slice aC cls.length cC, .slice aP prs.length cP, .slice aA args.length cA, .slice aT cits.length cT, .slice aK kids.length cK] 41)).drew) [.int .i64 kind, .string (bs text), .string (bs dest), .string (bs title), .string (bs []), .slice aC cls.length cC, .slice aP prs.length cP, .slice aA args.length cA, .slice aT cits.length cT, .slice aK kids.length cK] (Inl.mk kind text dest title [] cls prs args cits kids)) := (inlK N).sam HY3.out (Sam.kept hk4) (fun g _ q => ⟨q, fun q2 => by have := hvb g q2; omega⟩)
          have hb4 : B + 6 ≤ ((w3.alloc (.cells #[.int .i64 kind, .string (bs text), .string (bs dest), .string (bs title), .string (bs []), .slice aC cls.length cC, .slice aP prs.length cP, .slice aA args.length cA, .slice aT cits.length cT, .slice aK kids.length cK] 41)).drew).heap.size := Nat.le_trans (Nat.le_trans hb HON3.out.size) hk4.size
          have HK4 := Lib.hid hk4
          clear hlk hup hJ hk4
          go_wp2_with fail
          apply cut_region1 (R := fun _ w' => SvI N D B ns (zs ++ [(Inl.mk kind text dest title [] cls prs args cits kids)]) ids w' ∧ FrB B w3 w' ∧ Blk w' I 41 #[.int .i64 kind, .string (bs text), .string (bs dest), .string (bs title), .string (bs []), .slice aC cls.length cC, .slice aP prs.length cP, .slice aA args.length cA, .slice aT cits.length cT, .slice aK kids.length cK])
          · intro HC
            go_region_law (refine step_append_out (inlK N) rfl (.tmp 51) (.tmp 53) 30 rfl i0 _ 192 Try.underlying30 hi hz0 hz1 hz2 rfl (by omega) (by rfl) HJ4.out.wants _ [.int .i64 kind, .string (bs text), .string (bs dest), .string (bs title), .string (bs []), .slice aC cls.length cC, .slice aP prs.length cP, .slice aA args.length cA, .slice aT cits.length cT, .slice aK kids.length cK] (Inl.mk kind text dest title [] cls prs args cits kids) (by rfl) (fun j u hu => HROW.out.cell j u (by rw [← Array.getElem?_toList]; exact hu)) rfl HY4.out (by unfold maxLen; omega) (by omega) hb4 _ rfl ?_; intro g7 c7' w7 hout7 hgrow7 hat7 hlt7; have hMW : MapV w7 (B + 1) (wantsE v3 zs) := HJ4.out.mw.only (Only.grown hgrow7) (fun q => by have := hvb _ q.symm; omega); have y7 : w7.cell? ⟨B + 5, 2, none⟩ = some (.map (some (B + 1))) := (HJ4.out.blk.onl (Only.grown hgrow7) (fun q => by have := hvb _ q.symm; omega)).cell 2 _ rfl; have up := HUP.out w7 (.slice (some ⟨g7, 0, none⟩) (zs.length + 1) c7') hMW; have HGR7 := Lib.hid hgrow7; have HOUT7 := Lib.hid hout7; clear hgrow7 hat7 hout7)
            all_goals
              have hR : SvI N D B ns (zs ++ [(Inl.mk kind text dest title [] cls prs args cits kids)]) ids (putV w7 (B + 1) [(-1, .slice (some ⟨g7, 0, none⟩) (zs.length + 1) c7')]) ∧ FrB B w3 (putV w7 (B + 1) [(-1, .slice (some ⟨g7, 0, none⟩) (zs.length + 1) c7')]) ∧ Blk (putV w7 (B + 1) [(-1, .slice (some ⟨g7, 0, none⟩) (zs.length + 1) c7')]) I 41 #[.int .i64 kind, .string (bs text), .string (bs dest), .string (bs title), .string (bs []), .slice aC cls.length cC, .slice aP prs.length cP, .slice aA args.length cA, .slice aT cits.length cT, .slice aK kids.length cK] := by
                obtain ⟨r1, r2⟩ := HJ4.out.more hD HGR7.out HOUT7.out
                refine ⟨⟨_, _, _, _, _, r1⟩, (FrB.of_kept HK4.out).trans (FrB.grown HJ4.out.wants (by decide) HGR7.out (putV_only w7 (B + 1) _) r2 (fun cs => map_no_blk HJ4.out.mw)), ?_⟩
                have hB4 := HB3.out.kept HK4.out
                exact (hB4.onl (Only.grown HGR7.out) (fun q => hv3I q.symm)).onl (putV_only w7 (B + 1) _) (by omega)
              clear up hMW HGR7 HOUT7
              generalize (Value.slice (some ⟨g7, 0, none⟩) (zs.length + 1) c7') = v7 at hR ⊢
              exact HC v7 _ hR
          · intro v7 w4 hR
            obtain ⟨hS4, hon4, hB4⟩ := hR
            have HB4 := Lib.hid hB4
            have HON4 := Lib.hid (HON3.out.trans hon4)
            have HKK4 := Lib.hid (HKK3.out.sam (Sam.only hon4.only (fun g _ q r => by omega)) (fun _ _ q => q))
            have k7 : w4.cell? ⟨I, 7, none⟩ = some (.slice aA cls.length cA) ∨ True := .inr trivial
            have HS4 : Hid (SvI N D B ns (zs ++ selI true (Inl.mk kind text dest title [] cls prs args cits kids)) ids w4) := hS4
            have hl4 : (zs ++ selI true (Inl.mk kind text dest title [] cls prs args cits kids)).length + (deepL kids).length ≤ 1000000 := by show (zs ++ [(Inl.mk kind text dest title [] cls prs args cits kids)]).length + _ ≤ _; rw [List.length_append, List.length_singleton]; omega
            have HCALL := Lib.hid (HIH.out kids (.slice aK kids.length cK) inn (-1) ns _ ids w4 (by omega) HKK4.out f9 HKO.out hqk.out (fun h => absurd rfl h) hl4 (Nat.le_trans hb HON4.out.size) HS4.out)
            have m9 : w4.cell? ⟨I, 9, none⟩ = some (.slice aK kids.length cK) := hB4.cell 9 _ rfl
            clear k7 HIH HS4 hS4 hB4 hon4 HJ3 HJ4 HKK3 HKK4 HY3 HY4 HKO hqk HWU HUP HROW HK4 HB3 y2 y2' lk0 lk1 c0 c1_ c2 c3 c4 c5 c6 c7 c8 c9 e0 e1 e2 e3 e4 e5 e6 e7 e8 e9 hvb
            go_wp2_with fail
            refine HCALL.out.mono ?_
            rintro e w5 ⟨rfl, hs5, hon5⟩
            have HS5 : Hid (SvI N D B ns (us ++ (deepL (xs.take (k + 1))).filter isUse) ids w5) := by rw [HEQ.out]; exact hs5
            have HON5 := Lib.hid (HON4.out.trans hon5)
            clear hs5 hon5 HEQ HCALL HB4 m9 HON3 HON4
            go_wp2_with fail
            go_roundw
            case rel => exact ⟨k + 1, by omega, by go_num, HS5.out, HON5.out⟩
            case measure => simp [intOf]; omega
      · obtain rfl : k = xs.length := by omega
        have HF := Lib.hid (HFIN.out wr HSR.out HKR.out)
        clear HFIN HTK HLE HIH HSR HKR HV HOK HS0 HQ HW HTL HFL
        go_wp2_with fail
        (try simp only [Exit.inBlock, Exit.then]); (try refine bodyPost_ret (results_none rfl _ _ _) rfl ?_)
        exact HF.out
end Go.Proofs.Ythbnahagfojfbaa

/- survey.blocks: the definitions and the uses outside. Conditions: okSL. -/
set_option linter.all false
namespace Go.Proofs.Ythbnahagfojfbaa
open Go.RowKit

def SvP (N D B : Nat) (st : St) (w : World) (e : Ending) (w' : World) : Prop := e = .returned (.tuple #[]) ∧ SvI N D B st.ns st.us st.ids w' ∧ FrB B w w'
set_option maxRecDepth 100000 in
set_option maxHeartbeats 12800000 in
theorem sblk_any (N D B : Nat) (hD : D ≤ B) : ∀ (n : Nat) (xs : List Blo) (v : Value) (inn : Int) (ins : Bool) (st : St) (w : World), Bls (fun g => g < D) N n w v xs → xs.length ≤ 1000000 → okBL xs → okSL inn ins xs st → B + 6 ≤ w.heap.size → SvI N D B st.ns st.us st.ids w →
    Calls Try.prog 37 #[.pointer (some ⟨B + 5, 0, none⟩), v, .int .i64 inn, .bool ins] w (SvP N D B (svL inn ins xs st) w) := by
  intro n
  induction n with
  | zero =>
    intro xs v inn ins st w hv hl hok hos hb hs
    obtain rfl := hv.no
    obtain ⟨a, c, rfl, hc⟩ := hv.form
    have HFIN : SvP N D B (svL inn ins [] st) w (.returned (.tuple #[])) w := ⟨rfl, hs, FrB.of_kept (Kept.refl w)⟩
    clear hv hok hos hs
    go_enter Try.func37, Try.ntmps37
    go_wp2_with fail
    go_loopw [13] (fun i wr => i = .int .i64 0 ∧ w = wr) (fun i _ => 1)
    case atStart => exact ⟨rfl, rfl⟩
    case round =>
      obtain ⟨rfl, rfl⟩ := hrel
      go_wp2_with fail
      (try simp only [Exit.inBlock, Exit.then]); (try refine bodyPost_ret (results_none rfl _ _ _) rfl ?_)
      exact HFIN
  | succ n ih =>
    intro xs v inn ins st w hv hl hok hos hb hs
    have HV := Lib.hid hv
    have HOK := Lib.hid hok
    have HOS := Lib.hid (fun k x h => okSL_at hos k x h)
    have HS0 : Hid (SvI N D B (svL inn ins (xs.take 0) st).ns (svL inn ins (xs.take 0) st).us (svL inn ins (xs.take 0) st).ids w) := hs
    have HFIN : Hid (∀ w', SvI N D B (svL inn ins (xs.take xs.length) st).ns (svL inn ins (xs.take xs.length) st).us (svL inn ins (xs.take xs.length) st).ids w' → FrB B w w' → SvP N D B (svL inn ins xs st) w (.returned (.tuple #[])) w') := fun w' h1 h2 => ⟨rfl, by rw [List.take_length] at h1; exact h1, h2⟩
    have HTK : Hid (∀ (k : Nat) (x : Blo), xs[k]? = some x → svL inn ins (xs.take (k + 1)) st = svL (withinS inn ins x (svL inn ins (xs.take k) st)) (isGl x) x.kids (stepS inn ins x (svL inn ins (xs.take k) st))) := fun k x h => by rw [svL_take h, sv1_eq]
    have HIH := Lib.hid ih
    unfold SvP at HIH
    obtain ⟨i0, hi, hz0, hz1, hz2⟩ := info_parts Try.infoStr
    obtain ⟨j0, hj, hy0, hy1, hy2⟩ := info_parts Try.infoInt
    obtain ⟨a, c, rfl, hc⟩ := hv.form
    generalize hP : SvP N D B (svL inn ins xs st) w = P at *
    clear hP hv hok hs ih hos
    go_enter Try.func37, Try.ntmps37
    go_wp2_with fail
    go_loopw [13] (fun i wr => ∃ (k : Nat), k ≤ xs.length ∧ i = .int .i64 k ∧ Hid (SvI N D B (svL inn ins (xs.take k) st).ns (svL inn ins (xs.take k) st).us (svL inn ins (xs.take k) st).ids wr) ∧ Hid (FrB B w wr)) (fun i _ => xs.length - (intOf i).toNat)
    case atStart => exact ⟨0, Nat.zero_le _, rfl, HS0.out, FrB.of_kept (Kept.refl w)⟩
    case round =>
      obtain ⟨k, hk, rfl, HSR, HKR⟩ := hrel
      have hbr : B + 6 ≤ wr.heap.size := Nat.le_trans hb HKR.out.size
      by_cases hlt : k < xs.length
      · obtain ⟨x, hx⟩ : ∃ x, xs[k]? = some x := ⟨_, List.getElem?_eq_getElem hlt⟩
        have HVR := Lib.hid (HV.out.sam (Sam.only HKR.out.only (fun g _ h q => by omega)) (fun g _ h => h))
        have hfit := (okBL_at HOK.out x (List.mem_of_getElem? hx)).fit
        have hos := HOS.out k x hx
        have HT := Lib.hid (HTK.out k x hx)
        obtain ⟨sk, HSK⟩ : ∃ s, Hid (svL inn ins (xs.take k) st = s) := ⟨_, rfl⟩
        rw [HSK.out] at HSR HT hos
        rw [okS1_eq] at hos
        obtain ⟨⟨t1, t2, t3, t4, t5, t6, t7, t8⟩, hos2⟩ := hos
        have HOS2 := Lib.hid hos2
        obtain ⟨g, o, vC, vP, vL, vK, rfl, hgg, hgD, -, -, ⟨d0, d1, d2, d3, d4, d5, d6, d7, d8, d9, d10⟩, -, ⟨hC, iC⟩, ⟨hPP, iP⟩, hL, hK⟩ := Bls.at_ HVR.out k x hx
        obtain ⟨kind, level, info, text, dest, title, id, cls, prs, line, kids⟩ := x
        simp only [Blo.kind, Blo.level, Blo.info, Blo.text, Blo.dest, Blo.title, Blo.id, Blo.cls, Blo.prs, Blo.line, Blo.kids] at d0 d1 d2 d3 d4 d5 d6 hC iC hPP iP hL hK hfit HT HOS2 t2 t3 t4 t5 t7 t8
        obtain ⟨⟨f1, f2, f3, f4, f5, f6, f7, f8, f9⟩, f10, f11⟩ := hfit
        obtain ⟨aC, cC, rfl, lC⟩ := hC.shape
        obtain ⟨aP, cP, rfl, lP⟩ := hPP.shape
        obtain ⟨aL, cL, rfl, lL⟩ := hL.form
        obtain ⟨aK, cK, rfl, lK⟩ := hK.form
        have HLL := Lib.hid hL
        have HKK := Lib.hid hK
        have HPP := Lib.hid hPP
        have HIP := Lib.hid iP
        have HKO1 := Lib.hid f10
        have HKO2 := Lib.hid f11
        have HB0 := Lib.hid (Blk.new wr 37 #[.int .i64 kind, .int .i64 level, .string (bs info), .string (bs text), .string (bs dest), .string (bs title), .string (bs id), .slice aC cls.length cC, .slice aP prs.length cP, .slice aL line.length cL, .slice aK kids.length cK])
        have HKI := Lib.hid (kept_alloc wr (.cells #[.int .i64 kind, .int .i64 level, .string (bs info), .string (bs text), .string (bs dest), .string (bs title), .string (bs id), .slice aC cls.length cC, .slice aP prs.length cP, .slice aL line.length cL, .slice aK kids.length cK] 37))
        have HTM := Lib.hid (fun w => istm_any kind level info text dest title id (.slice aC cls.length cC) (.slice aP prs.length cP) (.slice aL line.length cL) (.slice aK kids.length cK) w rfl rfl rfl rfl)
        have HGL := Lib.hid (fun w => isgl_any kind level info text dest title id (.slice aC cls.length cC) (.slice aP prs.length cP) (.slice aL line.length cL) (.slice aK kids.length cK) w rfl rfl rfl rfl)
        have HDN := Lib.hid (fun w h => defname_any kind level info text dest title id (.slice aC cls.length cC) (.slice aP prs.length cP) (.slice aL line.length cL) (.slice aK kids.length cK) prs w rfl h (by omega) rfl rfl)
        rw [← isTm_mk kind level info text dest title id cls prs line kids] at HTM
        rw [← isGl_mk kind level info text dest title id cls prs line kids] at HGL
        have HDF : Hid (defName (Blo.mk kind level info text dest title id cls prs line kids) = (getP prs kName).getD []) := rfl
        obtain ⟨nm, HNM⟩ : ∃ nm, Hid ((getP prs kName).getD [] = nm) := ⟨_, rfl⟩
        rw [HNM.out] at HDF HDN
        obtain ⟨bb, HBB⟩ : ∃ bb, Hid ((id == []) = bb) := ⟨_, Lib.hid rfl⟩
        have qbb : (id == []) = bb := HBB.out
        have q14 : (kind == 14) = false := by simpa using t2
        obtain ⟨I, HI⟩ : ∃ I, Hid (wr.heap.size = I) := ⟨_, rfl⟩
        have hIb : B + 6 ≤ I := by rw [← HI.out]; exact hbr
        obtain ⟨TT, HTT⟩ : ∃ t, Hid (isTm (Blo.mk kind level info text dest title id cls prs line kids) = t) := ⟨_, Lib.hid rfl⟩
        obtain ⟨GG, HGG⟩ : ∃ t, Hid (isGl (Blo.mk kind level info text dest title id cls prs line kids) = t) := ⟨_, Lib.hid rfl⟩
        rw [HTT.out] at HTM
        rw [HGG.out] at HGL HT HOS2
        obtain ⟨IDS, HID0⟩ : ∃ t, Hid (idsS inn ins (Blo.mk kind level info text dest title id cls prs line kids) sk = t) := ⟨_, Lib.hid rfl⟩
        obtain ⟨NS, HNS⟩ : ∃ t, Hid (nsS ins (Blo.mk kind level info text dest title id cls prs line kids) sk = t) := ⟨_, Lib.hid rfl⟩
        unfold stepS at HT HOS2
        rw [HID0.out, HNS.out] at HT HOS2
        have HT4 := Lib.hid t4
        obtain ⟨v1, v2, v3, esN, esI, hJ0⟩ := HSR.out
        have hvI : v1.ownBlock ≠ some I ∧ v2.ownBlock ≠ some I ∧ v3.ownBlock ≠ some I := ⟨fun q => by have := (hJ0.names.blk I q).2; have := HI.out; omega, fun q => by have := (hJ0.pars.blk I q).2; have := HI.out; omega, fun q => by have := (hJ0.wants.blk I q).2; have := HI.out; omega⟩
        have HJ0 := Lib.hid (hJ0.kept HKI.out)
        clear hC iC hPP iP hL hK f10 f11 hx HTK HV HVR HFIN hos2 HOS t2 t4 HS0 HSR hJ0 HBB
        cases ins with
        | false =>
          have hWt : withinS inn false (Blo.mk kind level info text dest title id cls prs line kids) sk = inn := rfl
          have hNt : NS = sk.ns := by rw [← HNS.out]; rfl
          rw [hWt] at HT HOS2 t3 t5
          subst hNt
          have HNID : Hid ((!bb) = true → inn ≠ -1 → id ∉ sk.ids) := fun h1 h2 => t3 (by rw [← qbb] at h1; simpa using h1) h2
          have HIDS : Hid (∀ k, k ∉ IDS → k ∉ sk.ids ∧ ((!bb) = true → inn ≠ -1 → k ≠ id)) := fun k hk => by
            have h1 := HID0.out
            unfold idsS at h1
            rw [hWt] at h1
            simp only [Blo.id] at h1
            rw [qbb] at h1
            rw [← h1] at hk
            by_cases hin : inn = -1
            · rw [decide_eq_true hin] at hk
              cases bb <;> exact ⟨hk, fun _ h => absurd hin h⟩
            · rw [decide_eq_false hin] at hk
              cases bb with
              | true => exact ⟨hk, fun h => by cases h⟩
              | false =>
                have h2 : k ∉ sk.ids ++ [id] := hk
                simp at h2
                exact ⟨h2.1, fun _ _ => h2.2⟩
          have HLIN := Lib.hid (fun w' h1 h2 h3 => line_any N D B hD N line (.slice aL line.length cL) inn inn sk.ns sk.us IDS w' (by omega) h1 f8 HKO1.out HT4.out t5 t7 h2 h3)
          unfold LinP at HLIN
          go_wp2_with fail
          generalize wr.alloc _ = w6 at *
          rw [HI.out] at HB0 ⊢
          have HJ6 := Lib.hid HJ0.out
          have HB6 := Lib.hid HB0.out
          have HON6 : Hid (FrB B w w6) := HKR.out.trans (FrB.of_kept HKI.out)
          have HLL6 := Lib.hid (HLL.out.kept HKI.out)
          have HKK6 := Lib.hid (HKK.out.kept HKI.out)
          clear HTM HJ0 HB0 HLL HKK HKI HKR d0 d1 d2 d3 d4 d5 d6 d7 d8 d9 d10 HNS HDN HPP
          have HB9 := Lib.hid HB6.out
          have hJ := HJ6.out
          have y4 : w6.cell? ⟨B + 5, 4, none⟩ = some (.map (some (B + 3))) := hJ.blk.cell 4 _ rfl
          have y4' : w6.drew.cell? ⟨B + 5, 4, none⟩ = some (.map (some (B + 3))) := hJ.blk.cell 4 _ rfl
          have k6 : w6.cell? ⟨I, 6, none⟩ = some (.string (bs id)) := HB6.out.cell 6 _ rfl
          have k6' : w6.drew.cell? ⟨I, 6, none⟩ = some (.string (bs id)) := HB6.out.cell 6 _ rfl
          have HNOTE := Lib.hid (note_any (B + 3) esI id inn (!bb) w6.drew (hJ.mi.kept (kept_drewN w6 1)) (fun h1 h2 => hJ.ids id (HNID.out h1 h2)))
          unfold NoteP at HNOTE
          clear hJ
          go_wp2_with fail
          apply cut_region (R := fun w' => (∃ es', SvJ N D B sk.ns (List.replicate sk.ns.length (-1)) sk.ns sk.us IDS w' v1 v2 v3 esN es') ∧ FrB B w6 w' ∧ Blk w' I 37 #[.int .i64 kind, .int .i64 level, .string (bs info), .string (bs text), .string (bs dest), .string (bs title), .string (bs id), .slice aC cls.length cC, .slice aP prs.length cP, .slice aL line.length cL, .slice aK kids.length cK])
          · intro HC
            go_region_with (first | (go_at_call 56; refine HNOTE.out.mono ?_; rintro e w7 ⟨rfl, es', hm7, hes, hon7⟩))
            all_goals
              refine HC w7 ⟨⟨es', ?_⟩, ⟨((Only.of_kept (kept_drewN w6 1)).trans hon7).mono (fun i _ q => by first | exact q.elim | omega), fun g cs q => (q.kept (kept_drewN w6 1)).onl hon7 (fun r => by subst r; exact mapT_no_blk HJ6.out.mi q)⟩, (HB6.out.kept (kept_drewN w6 1)).onl hon7 (by omega)⟩
              have hJ := HJ6.out.kept (kept_drewN w6 1)
              exact hJ.maps hD hon7 (fun i q => .inr q) (hJ.mn.only hon7 (by omega)) hm7 hJ.inn hJ.out (fun k hk => hes k (hJ.ids k (HIDS.out k hk).1) (HIDS.out k hk).2)
          · intro w7 hR
            obtain ⟨⟨es', hJ7⟩, hon7, hB7⟩ := hR
            have HJ7 := Lib.hid hJ7
            have HB7 := Lib.hid hB7
            have HON7 := Lib.hid (HON6.out.trans hon7)
            have HLL7 := Lib.hid (HLL6.out.sam (Sam.only hon7.only (fun g _ q r => by omega)) (fun _ _ q => q))
            have HKK7 := Lib.hid (HKK6.out.sam (Sam.only hon7.only (fun g _ q r => by omega)) (fun _ _ q => q))
            have y5 : w7.cell? ⟨B + 5, 5, none⟩ = some (.map (some (B + 4))) := hJ7.blk.cell 5 _ rfl
            have k0 : w7.cell? ⟨I, 0, none⟩ = some (.int .i64 kind) := hB7.cell 0 _ rfl
            have k2 : w7.cell? ⟨I, 2, none⟩ = some (.string (bs info)) := hB7.cell 2 _ rfl
            clear hJ7 hB7 hon7 HJ6 HB6 HB9 HON6 HLL6 HKK6 HNOTE y4 y4' k6 k6' 
            go_wp2_with fail
            go_quiet (first | (go_at_call 56; refine Calls.quiet_of_same (note_no _ _ _ _)))
            clear y5 k0 k2
            have k9 : ∀ n, (w7.drewN n).cell? ⟨I, 9, none⟩ = some (.slice aL line.length cL) := fun n => HB7.out.cell 9 _ rfl
            go_wp2_with fail
            refine (HLIN.out _ (HLL7.out.kept (kept_drewN w7 _)) (Nat.le_trans hb HON7.out.size) ⟨_, _, _, _, _, HJ7.out.kept (kept_drewN w7 _)⟩).mono ?_
            rintro e w8 ⟨rfl, hs8, hon8⟩
            have HON8 := Lib.hid (HON7.out.trans ((FrB.of_kept (kept_drewN w7 _)).trans hon8))
            have HB8 := Lib.hid (hon8.blk I _ (HB7.out.kept (kept_drewN w7 _)))
            have HKK8 := Lib.hid ((HKK7.out.kept (kept_drewN w7 _)).sam (Sam.only hon8.only (fun g _ q r => by omega)) (fun _ _ q => q))
            have HS8 := Lib.hid hs8
            clear hs8 hon8 HLIN HON7 HB7 HJ7 HLL7 HKK7 k9
            have ky0 : w8.cell? ⟨I, 0, none⟩ = some (.int .i64 kind) := (HB8.out).cell 0 _ rfl
            have ky1 : w8.cell? ⟨I, 1, none⟩ = some (.int .i64 level) := (HB8.out).cell 1 _ rfl
            have ky2 : w8.cell? ⟨I, 2, none⟩ = some (.string (bs info)) := (HB8.out).cell 2 _ rfl
            have ky3 : w8.cell? ⟨I, 3, none⟩ = some (.string (bs text)) := (HB8.out).cell 3 _ rfl
            have ky4 : w8.cell? ⟨I, 4, none⟩ = some (.string (bs dest)) := (HB8.out).cell 4 _ rfl
            have ky5 : w8.cell? ⟨I, 5, none⟩ = some (.string (bs title)) := (HB8.out).cell 5 _ rfl
            have ky6 : w8.cell? ⟨I, 6, none⟩ = some (.string (bs id)) := (HB8.out).cell 6 _ rfl
            have ky7 : w8.cell? ⟨I, 7, none⟩ = some (.slice aC cls.length cC) := (HB8.out).cell 7 _ rfl
            have ky8 : w8.cell? ⟨I, 8, none⟩ = some (.slice aP prs.length cP) := (HB8.out).cell 8 _ rfl
            have ky9 : w8.cell? ⟨I, 9, none⟩ = some (.slice aL line.length cL) := (HB8.out).cell 9 _ rfl
            have ky10 : w8.cell? ⟨I, 10, none⟩ = some (.slice aK kids.length cK) := (HB8.out).cell 10 _ rfl
            have kz0 : w8.drew.cell? ⟨I, 0, none⟩ = some (.int .i64 kind) := (HB8.out).cell 0 _ rfl
            have kz1 : w8.drew.cell? ⟨I, 1, none⟩ = some (.int .i64 level) := (HB8.out).cell 1 _ rfl
            have kz2 : w8.drew.cell? ⟨I, 2, none⟩ = some (.string (bs info)) := (HB8.out).cell 2 _ rfl
            have kz3 : w8.drew.cell? ⟨I, 3, none⟩ = some (.string (bs text)) := (HB8.out).cell 3 _ rfl
            have kz4 : w8.drew.cell? ⟨I, 4, none⟩ = some (.string (bs dest)) := (HB8.out).cell 4 _ rfl
            have kz5 : w8.drew.cell? ⟨I, 5, none⟩ = some (.string (bs title)) := (HB8.out).cell 5 _ rfl
            have kz6 : w8.drew.cell? ⟨I, 6, none⟩ = some (.string (bs id)) := (HB8.out).cell 6 _ rfl
            have kz7 : w8.drew.cell? ⟨I, 7, none⟩ = some (.slice aC cls.length cC) := (HB8.out).cell 7 _ rfl
            have kz8 : w8.drew.cell? ⟨I, 8, none⟩ = some (.slice aP prs.length cP) := (HB8.out).cell 8 _ rfl
            have kz9 : w8.drew.cell? ⟨I, 9, none⟩ = some (.slice aL line.length cL) := (HB8.out).cell 9 _ rfl
            have kz10 : w8.drew.cell? ⟨I, 10, none⟩ = some (.slice aK kids.length cK) := (HB8.out).cell 10 _ rfl
            have HG8 := Lib.hid (HGL.out w8.drew)
            clear HGL
            go_wp2_with fail
            apply cut_region (R := fun w' => SvI N D B (svL inn false (xs.take (k + 1)) st).ns (svL inn false (xs.take (k + 1)) st).us (svL inn false (xs.take (k + 1)) st).ids w' ∧ FrB B w w')
            · intro HC
              go_region_with (first
                | (go_at_call 46; refine HG8.out.mono ?_; rintro e w9 ⟨rfl, hk9⟩; have HK9 := Lib.hid hk9; have HCA := Lib.hid (HIH.out kids (.slice aK kids.length cK) inn GG ⟨sk.ns, sk.us ++ (deepL line).filter isUse, IDS⟩ w9 ((HKK8.out.kept (kept_drewN w8 1)).kept hk9) f9 HKO2.out HOS2.out (Nat.le_trans (Nat.le_trans hb HON8.out.size) hk9.size) ((HS8.out.kept (kept_drewN w8 1)).kept hk9)); have x10 : w9.cell? ⟨I, 10, none⟩ = some (.slice aK kids.length cK) := ((HB8.out.kept (kept_drewN w8 1)).kept hk9).cell 10 _ rfl; clear hk9)
                | (go_at_call 37; refine HCA.out.mono ?_; rintro e w10 ⟨rfl, hs10, hon10⟩))
              all_goals
                refine HC w10 ⟨?_, HON8.out.trans ((FrB.of_kept ((kept_drewN w8 1).trans HK9.out)).trans hon10)⟩
                rw [HT.out]; exact hs10
            · intro w10 hR
              obtain ⟨hS10, hon10⟩ := hR
              have HS10 := Lib.hid hS10
              have HON10 := Lib.hid hon10
              clear hS10 hon10 HIH HS8 HB8 HKK8 HON8 HT HOS2 ky0 kz0 ky1 kz1 ky2 kz2 ky3 kz3 ky4 kz4 ky5 kz5 ky6 kz6 ky7 kz7 ky8 kz8 ky9 kz9 ky10 kz10
              go_wp2_with fail
              go_roundw
              case rel => exact ⟨k + 1, by omega, by go_num, HS10.out, HON10.out⟩
              case measure => simp [intOf]; omega
        | true =>
          have HT0 := Lib.hid (HTM.out (wr.alloc (.cells #[.int .i64 kind, .int .i64 level, .string (bs info), .string (bs text), .string (bs dest), .string (bs title), .string (bs id), .slice aC cls.length cC, .slice aP prs.length cP, .slice aL line.length cL, .slice aK kids.length cK] 37)))
          go_wp2_with fail
          generalize wr.alloc _ = w0 at *
          refine HT0.out.mono ?_
          rintro e w1 ⟨rfl, hk1⟩
          rw [HI.out] at HB0 ⊢
          have HK1 := Lib.hid (HKI.out.trans hk1)
          have HB1 := Lib.hid (HB0.out.kept hk1)
          have HJ1 := Lib.hid (HJ0.out.kept hk1)
          have HON1 : Hid (FrB B w w1) := HKR.out.trans (FrB.of_kept HK1.out)
          have HLL1 := Lib.hid (HLL.out.kept HK1.out)
          have HKK1 := Lib.hid (HKK.out.kept HK1.out)
          have HPP1 := Lib.hid (HPP.out.kept HK1.out)
          clear HT0 HTM hk1 HB0 HKI HJ0 HKR HLL HKK HPP HK1 d0 d1 d2 d3 d4 d5 d6 d7 d8 d9 d10
          cases TT with
          | false =>
            have hWt : withinS inn true (Blo.mk kind level info text dest title id cls prs line kids) sk = inn := by unfold withinS tmS; rw [HTT.out]; rfl
            have hNt : NS = sk.ns := by rw [← HNS.out]; unfold nsS tmS; rw [HTT.out]; rfl
            rw [hWt] at HT HOS2 t3 t5
            subst hNt
            have HNID : Hid ((!bb) = true → inn ≠ -1 → id ∉ sk.ids) := fun h1 h2 => t3 (by rw [← qbb] at h1; simpa using h1) h2
            have HIDS : Hid (∀ k, k ∉ IDS → k ∉ sk.ids ∧ ((!bb) = true → inn ≠ -1 → k ≠ id)) := fun k hk => by
              have h1 := HID0.out
              unfold idsS at h1
              rw [hWt] at h1
              simp only [Blo.id] at h1
              rw [qbb] at h1
              rw [← h1] at hk
              by_cases hin : inn = -1
              · rw [decide_eq_true hin] at hk
                cases bb <;> exact ⟨hk, fun _ h => absurd hin h⟩
              · rw [decide_eq_false hin] at hk
                cases bb with
                | true => exact ⟨hk, fun h => by cases h⟩
                | false =>
                  have h2 : k ∉ sk.ids ++ [id] := hk
                  simp at h2
                  exact ⟨h2.1, fun _ _ => h2.2⟩
            have HLIN := Lib.hid (fun w' h1 h2 h3 => line_any N D B hD N line (.slice aL line.length cL) inn inn sk.ns sk.us IDS w' (by omega) h1 f8 HKO1.out HT4.out t5 t7 h2 h3)
            unfold LinP at HLIN
            go_wp2_with fail
            have HJ6 := HJ1
            have HB6 := HB1
            have HON6 := HON1
            have HLL6 := HLL1
            have HKK6 := HKK1
            clear HJ1 HB1 HON1 HLL1 HKK1 HPP1 HDN HNS
            have HB9 := Lib.hid HB6.out
            have hJ := HJ6.out
            have y4 : w1.cell? ⟨B + 5, 4, none⟩ = some (.map (some (B + 3))) := hJ.blk.cell 4 _ rfl
            have y4' : w1.drew.cell? ⟨B + 5, 4, none⟩ = some (.map (some (B + 3))) := hJ.blk.cell 4 _ rfl
            have k6 : w1.cell? ⟨I, 6, none⟩ = some (.string (bs id)) := HB6.out.cell 6 _ rfl
            have k6' : w1.drew.cell? ⟨I, 6, none⟩ = some (.string (bs id)) := HB6.out.cell 6 _ rfl
            have HNOTE := Lib.hid (note_any (B + 3) esI id inn (!bb) w1.drew (hJ.mi.kept (kept_drewN w1 1)) (fun h1 h2 => hJ.ids id (HNID.out h1 h2)))
            unfold NoteP at HNOTE
            clear hJ
            go_wp2_with fail
            apply cut_region (R := fun w' => (∃ es', SvJ N D B sk.ns (List.replicate sk.ns.length (-1)) sk.ns sk.us IDS w' v1 v2 v3 esN es') ∧ FrB B w1 w' ∧ Blk w' I 37 #[.int .i64 kind, .int .i64 level, .string (bs info), .string (bs text), .string (bs dest), .string (bs title), .string (bs id), .slice aC cls.length cC, .slice aP prs.length cP, .slice aL line.length cL, .slice aK kids.length cK])
            · intro HC
              go_region_with (first | (go_at_call 56; refine HNOTE.out.mono ?_; rintro e w7 ⟨rfl, es', hm7, hes, hon7⟩))
              all_goals
                refine HC w7 ⟨⟨es', ?_⟩, ⟨((Only.of_kept (kept_drewN w1 1)).trans hon7).mono (fun i _ q => by first | exact q.elim | omega), fun g cs q => (q.kept (kept_drewN w1 1)).onl hon7 (fun r => by subst r; exact mapT_no_blk HJ6.out.mi q)⟩, (HB6.out.kept (kept_drewN w1 1)).onl hon7 (by omega)⟩
                have hJ := HJ6.out.kept (kept_drewN w1 1)
                exact hJ.maps hD hon7 (fun i q => .inr q) (hJ.mn.only hon7 (by omega)) hm7 hJ.inn hJ.out (fun k hk => hes k (hJ.ids k (HIDS.out k hk).1) (HIDS.out k hk).2)
            · intro w7 hR
              obtain ⟨⟨es', hJ7⟩, hon7, hB7⟩ := hR
              have HJ7 := Lib.hid hJ7
              have HB7 := Lib.hid hB7
              have HON7 := Lib.hid (HON6.out.trans hon7)
              have HLL7 := Lib.hid (HLL6.out.sam (Sam.only hon7.only (fun g _ q r => by omega)) (fun _ _ q => q))
              have HKK7 := Lib.hid (HKK6.out.sam (Sam.only hon7.only (fun g _ q r => by omega)) (fun _ _ q => q))
              have y5 : w7.cell? ⟨B + 5, 5, none⟩ = some (.map (some (B + 4))) := hJ7.blk.cell 5 _ rfl
              have k0 : w7.cell? ⟨I, 0, none⟩ = some (.int .i64 kind) := hB7.cell 0 _ rfl
              have k2 : w7.cell? ⟨I, 2, none⟩ = some (.string (bs info)) := hB7.cell 2 _ rfl
              clear hJ7 hB7 hon7 HJ6 HB6 HB9 HON6 HLL6 HKK6 HNOTE y4 y4' k6 k6' 
              go_wp2_with fail
              go_quiet (first | (go_at_call 56; refine Calls.quiet_of_same (note_no _ _ _ _)))
              clear y5 k0 k2
              have k9 : ∀ n, (w7.drewN n).cell? ⟨I, 9, none⟩ = some (.slice aL line.length cL) := fun n => HB7.out.cell 9 _ rfl
              go_wp2_with fail
              refine (HLIN.out _ (HLL7.out.kept (kept_drewN w7 _)) (Nat.le_trans hb HON7.out.size) ⟨_, _, _, _, _, HJ7.out.kept (kept_drewN w7 _)⟩).mono ?_
              rintro e w8 ⟨rfl, hs8, hon8⟩
              have HON8 := Lib.hid (HON7.out.trans ((FrB.of_kept (kept_drewN w7 _)).trans hon8))
              have HB8 := Lib.hid (hon8.blk I _ (HB7.out.kept (kept_drewN w7 _)))
              have HKK8 := Lib.hid ((HKK7.out.kept (kept_drewN w7 _)).sam (Sam.only hon8.only (fun g _ q r => by omega)) (fun _ _ q => q))
              have HS8 := Lib.hid hs8
              clear hs8 hon8 HLIN HON7 HB7 HJ7 HLL7 HKK7 k9
              have ky0 : w8.cell? ⟨I, 0, none⟩ = some (.int .i64 kind) := (HB8.out).cell 0 _ rfl
              have ky1 : w8.cell? ⟨I, 1, none⟩ = some (.int .i64 level) := (HB8.out).cell 1 _ rfl
              have ky2 : w8.cell? ⟨I, 2, none⟩ = some (.string (bs info)) := (HB8.out).cell 2 _ rfl
              have ky3 : w8.cell? ⟨I, 3, none⟩ = some (.string (bs text)) := (HB8.out).cell 3 _ rfl
              have ky4 : w8.cell? ⟨I, 4, none⟩ = some (.string (bs dest)) := (HB8.out).cell 4 _ rfl
              have ky5 : w8.cell? ⟨I, 5, none⟩ = some (.string (bs title)) := (HB8.out).cell 5 _ rfl
              have ky6 : w8.cell? ⟨I, 6, none⟩ = some (.string (bs id)) := (HB8.out).cell 6 _ rfl
              have ky7 : w8.cell? ⟨I, 7, none⟩ = some (.slice aC cls.length cC) := (HB8.out).cell 7 _ rfl
              have ky8 : w8.cell? ⟨I, 8, none⟩ = some (.slice aP prs.length cP) := (HB8.out).cell 8 _ rfl
              have ky9 : w8.cell? ⟨I, 9, none⟩ = some (.slice aL line.length cL) := (HB8.out).cell 9 _ rfl
              have ky10 : w8.cell? ⟨I, 10, none⟩ = some (.slice aK kids.length cK) := (HB8.out).cell 10 _ rfl
              have kz0 : w8.drew.cell? ⟨I, 0, none⟩ = some (.int .i64 kind) := (HB8.out).cell 0 _ rfl
              have kz1 : w8.drew.cell? ⟨I, 1, none⟩ = some (.int .i64 level) := (HB8.out).cell 1 _ rfl
              have kz2 : w8.drew.cell? ⟨I, 2, none⟩ = some (.string (bs info)) := (HB8.out).cell 2 _ rfl
              have kz3 : w8.drew.cell? ⟨I, 3, none⟩ = some (.string (bs text)) := (HB8.out).cell 3 _ rfl
              have kz4 : w8.drew.cell? ⟨I, 4, none⟩ = some (.string (bs dest)) := (HB8.out).cell 4 _ rfl
              have kz5 : w8.drew.cell? ⟨I, 5, none⟩ = some (.string (bs title)) := (HB8.out).cell 5 _ rfl
              have kz6 : w8.drew.cell? ⟨I, 6, none⟩ = some (.string (bs id)) := (HB8.out).cell 6 _ rfl
              have kz7 : w8.drew.cell? ⟨I, 7, none⟩ = some (.slice aC cls.length cC) := (HB8.out).cell 7 _ rfl
              have kz8 : w8.drew.cell? ⟨I, 8, none⟩ = some (.slice aP prs.length cP) := (HB8.out).cell 8 _ rfl
              have kz9 : w8.drew.cell? ⟨I, 9, none⟩ = some (.slice aL line.length cL) := (HB8.out).cell 9 _ rfl
              have kz10 : w8.drew.cell? ⟨I, 10, none⟩ = some (.slice aK kids.length cK) := (HB8.out).cell 10 _ rfl
              have HG8 := Lib.hid (HGL.out w8.drew)
              clear HGL
              go_wp2_with fail
              apply cut_region (R := fun w' => SvI N D B (svL inn true (xs.take (k + 1)) st).ns (svL inn true (xs.take (k + 1)) st).us (svL inn true (xs.take (k + 1)) st).ids w' ∧ FrB B w w')
              · intro HC
                go_region_with (first
                  | (go_at_call 46; refine HG8.out.mono ?_; rintro e w9 ⟨rfl, hk9⟩; have HK9 := Lib.hid hk9; have HCA := Lib.hid (HIH.out kids (.slice aK kids.length cK) inn GG ⟨sk.ns, sk.us ++ (deepL line).filter isUse, IDS⟩ w9 ((HKK8.out.kept (kept_drewN w8 1)).kept hk9) f9 HKO2.out HOS2.out (Nat.le_trans (Nat.le_trans hb HON8.out.size) hk9.size) ((HS8.out.kept (kept_drewN w8 1)).kept hk9)); have x10 : w9.cell? ⟨I, 10, none⟩ = some (.slice aK kids.length cK) := ((HB8.out.kept (kept_drewN w8 1)).kept hk9).cell 10 _ rfl; clear hk9)
                  | (go_at_call 37; refine HCA.out.mono ?_; rintro e w10 ⟨rfl, hs10, hon10⟩))
                all_goals
                  refine HC w10 ⟨?_, HON8.out.trans ((FrB.of_kept ((kept_drewN w8 1).trans HK9.out)).trans hon10)⟩
                  rw [HT.out]; exact hs10
              · intro w10 hR
                obtain ⟨hS10, hon10⟩ := hR
                have HS10 := Lib.hid hS10
                have HON10 := Lib.hid hon10
                clear hS10 hon10 HIH HS8 HB8 HKK8 HON8 HT HOS2 ky0 kz0 ky1 kz1 ky2 kz2 ky3 kz3 ky4 kz4 ky5 kz5 ky6 kz6 ky7 kz7 ky8 kz8 ky9 kz9 ky10 kz10
                go_wp2_with fail
                go_roundw
                case rel => exact ⟨k + 1, by omega, by go_num, HS10.out, HON10.out⟩
                case measure => simp [intOf]; omega
          | true =>
            have hWt : withinS inn true (Blo.mk kind level info text dest title id cls prs line kids) sk = (sk.ns.length : Int) := by unfold withinS tmS; rw [HTT.out]; rfl
            have hNt : NS = sk.ns ++ [nm] := by rw [← HNS.out, ← HDF.out]; unfold nsS tmS; rw [HTT.out]; rfl
            obtain ⟨rfl, hnot⟩ := t1 (by unfold tmS; rw [HTT.out]; rfl)
            rw [HDF.out] at hnot
            rw [hWt] at HT HOS2 t3 t5
            subst hNt
            have HNID : Hid ((!bb) = true → (sk.ns.length : Int) ≠ -1 → id ∉ sk.ids) := fun h1 h2 => t3 (by rw [← qbb] at h1; simpa using h1) h2
            have HIDS : Hid (∀ k, k ∉ IDS → k ∉ sk.ids ∧ ((!bb) = true → (sk.ns.length : Int) ≠ -1 → k ≠ id)) := fun k hk => by
              have h1 := HID0.out
              unfold idsS at h1
              rw [hWt] at h1
              simp only [Blo.id] at h1
              rw [qbb] at h1
              rw [← h1] at hk
              by_cases hin : (sk.ns.length : Int) = -1
              · rw [decide_eq_true hin] at hk
                cases bb <;> exact ⟨hk, fun _ h => absurd hin h⟩
              · rw [decide_eq_false hin] at hk
                cases bb with
                | true => exact ⟨hk, fun h => by cases h⟩
                | false =>
                  have h2 : k ∉ sk.ids ++ [id] := hk
                  simp at h2
                  exact ⟨h2.1, fun _ _ => h2.2⟩
            have HLIN := Lib.hid (fun w' h1 h2 h3 => line_any N D B hD N line (.slice aL line.length cL) (-1) (sk.ns.length : Int) (sk.ns ++ [nm]) sk.us IDS w' (by omega) h1 f8 HKO1.out HT4.out t5 t7 h2 h3)
            unfold LinP at HLIN
            have HNOT := Lib.hid hnot
            have hJ := HJ1.out
            obtain ⟨a1, c1, rfl, hc1, hm1⟩ := hJ.names.form
            obtain ⟨a2, c2, rfl, hc2, hm2⟩ := hJ.pars.form
            have y0 : w1.cell? ⟨B + 5, 0, none⟩ = some (.slice a1 sk.ns.length c1) := hJ.blk.cell 0 _ rfl
            have y0' : w1.drew.cell? ⟨B + 5, 0, none⟩ = some (.slice a1 sk.ns.length c1) := hJ.blk.cell 0 _ rfl
            have zY := hJ.blk.lt
            have r0 : w1.cell? ⟨I, 0, none⟩ = some (.int .i64 kind) := (HB1.out).cell 0 _ rfl
            have r1 : w1.cell? ⟨I, 1, none⟩ = some (.int .i64 level) := (HB1.out).cell 1 _ rfl
            have r2 : w1.cell? ⟨I, 2, none⟩ = some (.string (bs info)) := (HB1.out).cell 2 _ rfl
            have r3 : w1.cell? ⟨I, 3, none⟩ = some (.string (bs text)) := (HB1.out).cell 3 _ rfl
            have r4 : w1.cell? ⟨I, 4, none⟩ = some (.string (bs dest)) := (HB1.out).cell 4 _ rfl
            have r5 : w1.cell? ⟨I, 5, none⟩ = some (.string (bs title)) := (HB1.out).cell 5 _ rfl
            have r6 : w1.cell? ⟨I, 6, none⟩ = some (.string (bs id)) := (HB1.out).cell 6 _ rfl
            have r7 : w1.cell? ⟨I, 7, none⟩ = some (.slice aC cls.length cC) := (HB1.out).cell 7 _ rfl
            have r8 : w1.cell? ⟨I, 8, none⟩ = some (.slice aP prs.length cP) := (HB1.out).cell 8 _ rfl
            have r9 : w1.cell? ⟨I, 9, none⟩ = some (.slice aL line.length cL) := (HB1.out).cell 9 _ rfl
            have r10 : w1.cell? ⟨I, 10, none⟩ = some (.slice aK kids.length cK) := (HB1.out).cell 10 _ rfl
            have s0 : w1.drew.cell? ⟨I, 0, none⟩ = some (.int .i64 kind) := (HB1.out).cell 0 _ rfl
            have s1 : w1.drew.cell? ⟨I, 1, none⟩ = some (.int .i64 level) := (HB1.out).cell 1 _ rfl
            have s2 : w1.drew.cell? ⟨I, 2, none⟩ = some (.string (bs info)) := (HB1.out).cell 2 _ rfl
            have s3 : w1.drew.cell? ⟨I, 3, none⟩ = some (.string (bs text)) := (HB1.out).cell 3 _ rfl
            have s4 : w1.drew.cell? ⟨I, 4, none⟩ = some (.string (bs dest)) := (HB1.out).cell 4 _ rfl
            have s5 : w1.drew.cell? ⟨I, 5, none⟩ = some (.string (bs title)) := (HB1.out).cell 5 _ rfl
            have s6 : w1.drew.cell? ⟨I, 6, none⟩ = some (.string (bs id)) := (HB1.out).cell 6 _ rfl
            have s7 : w1.drew.cell? ⟨I, 7, none⟩ = some (.slice aC cls.length cC) := (HB1.out).cell 7 _ rfl
            have s8 : w1.drew.cell? ⟨I, 8, none⟩ = some (.slice aP prs.length cP) := (HB1.out).cell 8 _ rfl
            have s9 : w1.drew.cell? ⟨I, 9, none⟩ = some (.slice aL line.length cL) := (HB1.out).cell 9 _ rfl
            have s10 : w1.drew.cell? ⟨I, 10, none⟩ = some (.slice aK kids.length cK) := (HB1.out).cell 10 _ rfl
            have HD1 := Lib.hid (HDN.out w1.drew (HPP1.out.kept (kept_drewN w1 1)))
            have hvb : ∀ g', (Value.slice a1 sk.ns.length c1).ownBlock = some g' → B + 6 ≤ g' ∧ g' < w1.heap.size := fun g' q => hJ.names.blk g' q
            have hb1 : B + 6 ≤ w1.heap.size := Nat.le_trans hb HON1.out.size
            go_wp2_with fail
            apply cut_region2 (R := fun _ u w' => SvJ N D B (sk.ns ++ [nm]) (List.replicate sk.ns.length (-1)) sk.ns sk.us sk.ids w' u (.slice a2 (List.replicate sk.ns.length (-1 : Int)).length c2) v3 esN esI ∧ FrB B w1 w' ∧ Blk w' I 37 #[.int .i64 kind, .int .i64 level, .string (bs info), .string (bs text), .string (bs dest), .string (bs title), .string (bs id), .slice aC cls.length cC, .slice aP prs.length cP, .slice aL line.length cL, .slice aK kids.length cK])
            · intro HC
              go_region_law (first
                | (refine step_append_out strK rfl (.tmp 32) (.tmp 35) 24 rfl i0 _ 16 Try.underlying24 hi hz0 hz1 hz2 rfl (by omega) (by rfl) HN4.out _ [.string (bs nm)] nm (by rfl) (fun j u hu => HROW.out.cell j u (by rw [← Array.getElem?_toList]; exact hu)) rfl rfl (by unfold maxLen; omega) (by omega) hb4 _ rfl ?_; intro g7 c7' w7 hout7 hgrow7 hat7 hlt7; have hB7 : Blk w7 (B + 5) 93 _ := (HJ4.out.blk.kept (kept_alloc _ _)).onl (Only.grown hgrow7) (fun q => by have := hvb _ q.symm; omega); have f7 := hB7.free 0; have y7 := hB7.cell 0 _ rfl; have z7 := hB7.lt; have HGR7 := Lib.hid hgrow7; have HOUT7 := Lib.hid hout7; clear hgrow7 hat7 hout7 hB7)
                | (refine step_go_call rfl (by simp [execOp, resolve, Act.eval, go_sem]) (HD1.out.mono ?_); rintro e w4 ⟨rfl, hk4⟩; refine ⟨_, rfl, ?_⟩; have HK4 := Lib.hid ((kept_drewN w1 1).trans hk4); have HJ4 := Lib.hid (HJ1.out.kept HK4.out); have y4 : w4.cell? ⟨B + 5, 0, none⟩ = some (.slice a1 sk.ns.length c1) := HJ4.out.blk.cell 0 _ rfl; have z4 := HJ4.out.blk.lt; have HN4 := Lib.hid (HJ4.out.names.kept strK (kept_alloc w4 (.cells #[.string (bs nm)] 9))); have HROW := Lib.hid (Blk.new w4 9 #[.string (bs nm)]); have hb4 : B + 6 ≤ (w4.alloc (.cells #[.string (bs nm)] 9)).heap.size := Nat.le_trans hb1 (Nat.le_trans HK4.out.size (kept_alloc w4 _).size); clear hk4))
              all_goals
                have hR : SvJ N D B (sk.ns ++ [nm]) (List.replicate sk.ns.length (-1)) sk.ns sk.us sk.ids (w7.setCell ⟨B + 5, 0, none⟩ (.slice (some ⟨g7, 0, none⟩) (sk.ns.length + 1) c7')) (.slice (some ⟨g7, 0, none⟩) (sk.ns.length + 1) c7') (.slice a2 (List.replicate sk.ns.length (-1 : Int)).length c2) v3 esN esI ∧ FrB B w1 (w7.setCell ⟨B + 5, 0, none⟩ (.slice (some ⟨g7, 0, none⟩) (sk.ns.length + 1) c7')) ∧ Blk (w7.setCell ⟨B + 5, 0, none⟩ (.slice (some ⟨g7, 0, none⟩) (sk.ns.length + 1) c7')) I 37 #[.int .i64 kind, .int .i64 level, .string (bs info), .string (bs text), .string (bs dest), .string (bs title), .string (bs id), .slice aC cls.length cC, .slice aP prs.length cP, .slice aL line.length cL, .slice aK kids.length cK] := by
                  have hJ5 := HJ4.out.kept (kept_alloc w4 (.cells #[.string (bs nm)] 9))
                  obtain ⟨r1, r2⟩ := hJ5.moreN hD HGR7.out HOUT7.out
                  have hk5 : Kept w1 (w4.alloc (.cells #[.string (bs nm)] 9)) := HK4.out.trans (kept_alloc w4 _)
                  exact ⟨r1, (FrB.of_kept hk5).trans (FrB.grown hJ5.names (by decide) HGR7.out (Only.setCell (B + 5) 0 _) r2 (fun cs => blk_no_blk hJ5.blk (by decide))), ((HB1.out.kept hk5).onl (Only.grown HGR7.out) (fun q => hvI.1 q.symm)).onl (Only.setCell (B + 5) 0 _) (by omega)⟩
                clear HGR7 HOUT7 f7 y7 z7 HN4 HROW hb4
                generalize (Value.slice (some ⟨w4.heap.size, 0, none⟩) 1 1) = u35
                generalize (Value.slice (some ⟨g7, 0, none⟩) (sk.ns.length + 1) c7') = v7 at hR ⊢
                exact HC u35 v7 _ hR
            · intro u35 v1 w5 hR
              obtain ⟨hJ5, hf5, hB5⟩ := hR
              have HJ5 := Lib.hid hJ5
              have HB5 := Lib.hid hB5
              have HF5 := Lib.hid hf5
              have HON5 := Lib.hid (HON1.out.trans hf5)
              have HLL5 := Lib.hid (HLL1.out.sam (Sam.only hf5.only (fun g _ q r => by omega)) (fun _ _ q => q))
              have HKK5 := Lib.hid (HKK1.out.sam (Sam.only hf5.only (fun g _ q r => by omega)) (fun _ _ q => q))
              have HPP5 := Lib.hid (HPP1.out.onlS HIP.out hf5.only (fun g _ q r => by omega))
              have hvb2 : ∀ g', (Value.slice a2 (List.replicate sk.ns.length (-1 : Int)).length c2).ownBlock = some g' → B + 6 ≤ g' := fun g' q => (hJ5.pars.blk g' q).1
              clear r0 r1 r2 r3 r4 r5 r6 r7 r8 r9 r10 s0 s1 s2 s3 s4 s5 s6 s7 s8 s9 s10 y0 y0' zY hJ HD1 HON1 HLL1 HKK1 HJ1 HB1 hvb
              have y1 : w5.cell? ⟨B + 5, 1, none⟩ = some (.slice a2 (List.replicate sk.ns.length (-1 : Int)).length c2) := hJ5.blk.cell 1 _ rfl
              have zY := hJ5.blk.lt
              have HROW := Lib.hid (Blk.new w5 3 #[.int .i64 (-1)])
              have HP6 := Lib.hid (hJ5.pars.kept intK (kept_alloc w5 (.cells #[.int .i64 (-1)] 3)))
              have HJ6 := Lib.hid (hJ5.kept (kept_alloc w5 (.cells #[.int .i64 (-1)] 3)))
              have hb6 : B + 6 ≤ (w5.alloc (.cells #[.int .i64 (-1)] 3)).heap.size := Nat.le_trans (Nat.le_trans hb HON5.out.size) (kept_alloc w5 _).size
              have hrl : (List.replicate sk.ns.length (-1 : Int)).length ≤ 1000000 := by rw [List.length_replicate]; omega
              obtain ⟨rl, HRL⟩ : ∃ rl, Hid (List.replicate sk.ns.length (-1 : Int) = rl) := ⟨_, rfl⟩
              rw [HRL.out] at hrl hvb2 y1 HP6 HJ6
              clear hJ5 hB5 hf5
              go_wp2_with (refine wpList_append_out intK rfl (.tmp 43) (.tmp 45) 62 rfl j0 _ 8 Try.underlying62 hj hy0 hy1 hy2 rfl (by omega) (by rfl) HP6.out _ [.int .i64 (-1)] (-1) (by rfl) (fun j u hu => HROW.out.cell j u (by rw [← Array.getElem?_toList]; exact hu)) rfl rfl (by unfold maxLen; omega) (by omega) hb6 _ rfl ?_; intro g7 c7' w7 hout7 hgrow7 hat7 hlt7; have hB7 : Blk w7 (B + 5) 93 _ := HJ6.out.blk.onl (Only.grown hgrow7) (fun q => by have := hvb2 _ q.symm; omega); have f7 := hB7.free 1; have y7 := hB7.cell 1 _ rfl; have z7 := hB7.lt; have HGR7 := Lib.hid hgrow7; have HOUT7 := Lib.hid hout7; clear hgrow7 hat7 hout7 hB7)
              obtain ⟨hJ8, hon8⟩ := HJ6.out.moreP hD HGR7.out HOUT7.out
              have hk6 : Kept w5 (w5.alloc (.cells #[.int .i64 (-1)] 3)) := kept_alloc w5 _
              have hf8 := (FrB.of_kept hk6).trans (FrB.grown HJ6.out.pars (by decide) HGR7.out (Only.setCell (B + 5) 1 _) hon8 (fun cs => blk_no_blk HJ6.out.blk (by decide)))
              have hB8 := hf8.blk I _ HB5.out
              have HPP8 := Lib.hid (HPP5.out.onlS HIP.out hf8.only (fun g _ q r => by omega))
              have HLL8 := Lib.hid (HLL5.out.sam (Sam.only hf8.only (fun g _ q r => by omega)) (fun _ _ q => q))
              have HKK8 := Lib.hid (HKK5.out.sam (Sam.only hf8.only (fun g _ q r => by omega)) (fun _ _ q => q))
              have HON8 := Lib.hid (HON5.out.trans hf8)
              have HJ8 := Lib.hid hJ8
              have HB8 := Lib.hid hB8
              clear hon8 hk6 hf8 HPP5 HLL5 HKK5 HON5 HF5 HJ5 HJ6 HP6 HROW hb6 HGR7 HOUT7 f7 y7 z7 hlt7 hvb2 y1 zY HB5
              generalize World.setCell w7 _ _ = w8 at *
              have HD8 := Lib.hid (HDN.out w8.drew (HPP8.out.kept (kept_drewN w8 1)))
              have y3 : w8.cell? ⟨B + 5, 3, none⟩ = some (.map (some (B + 2))) := hJ8.blk.cell 3 _ rfl
              have y3' : w8.drew.cell? ⟨B + 5, 3, none⟩ = some (.map (some (B + 2))) := hJ8.blk.cell 3 _ rfl
              have r0 : w8.cell? ⟨I, 0, none⟩ = some (.int .i64 kind) := (HB8.out).cell 0 _ rfl
              have r1 : w8.cell? ⟨I, 1, none⟩ = some (.int .i64 level) := (HB8.out).cell 1 _ rfl
              have r2 : w8.cell? ⟨I, 2, none⟩ = some (.string (bs info)) := (HB8.out).cell 2 _ rfl
              have r3 : w8.cell? ⟨I, 3, none⟩ = some (.string (bs text)) := (HB8.out).cell 3 _ rfl
              have r4 : w8.cell? ⟨I, 4, none⟩ = some (.string (bs dest)) := (HB8.out).cell 4 _ rfl
              have r5 : w8.cell? ⟨I, 5, none⟩ = some (.string (bs title)) := (HB8.out).cell 5 _ rfl
              have r6 : w8.cell? ⟨I, 6, none⟩ = some (.string (bs id)) := (HB8.out).cell 6 _ rfl
              have r7 : w8.cell? ⟨I, 7, none⟩ = some (.slice aC cls.length cC) := (HB8.out).cell 7 _ rfl
              have r8 : w8.cell? ⟨I, 8, none⟩ = some (.slice aP prs.length cP) := (HB8.out).cell 8 _ rfl
              have r9 : w8.cell? ⟨I, 9, none⟩ = some (.slice aL line.length cL) := (HB8.out).cell 9 _ rfl
              have r10 : w8.cell? ⟨I, 10, none⟩ = some (.slice aK kids.length cK) := (HB8.out).cell 10 _ rfl
              have s0 : w8.drew.cell? ⟨I, 0, none⟩ = some (.int .i64 kind) := (HB8.out).cell 0 _ rfl
              have s1 : w8.drew.cell? ⟨I, 1, none⟩ = some (.int .i64 level) := (HB8.out).cell 1 _ rfl
              have s2 : w8.drew.cell? ⟨I, 2, none⟩ = some (.string (bs info)) := (HB8.out).cell 2 _ rfl
              have s3 : w8.drew.cell? ⟨I, 3, none⟩ = some (.string (bs text)) := (HB8.out).cell 3 _ rfl
              have s4 : w8.drew.cell? ⟨I, 4, none⟩ = some (.string (bs dest)) := (HB8.out).cell 4 _ rfl
              have s5 : w8.drew.cell? ⟨I, 5, none⟩ = some (.string (bs title)) := (HB8.out).cell 5 _ rfl
              have s6 : w8.drew.cell? ⟨I, 6, none⟩ = some (.string (bs id)) := (HB8.out).cell 6 _ rfl
              have s7 : w8.drew.cell? ⟨I, 7, none⟩ = some (.slice aC cls.length cC) := (HB8.out).cell 7 _ rfl
              have s8 : w8.drew.cell? ⟨I, 8, none⟩ = some (.slice aP prs.length cP) := (HB8.out).cell 8 _ rfl
              have s9 : w8.drew.cell? ⟨I, 9, none⟩ = some (.slice aL line.length cL) := (HB8.out).cell 9 _ rfl
              have s10 : w8.drew.cell? ⟨I, 10, none⟩ = some (.slice aK kids.length cK) := (HB8.out).cell 10 _ rfl
              have hno := hJ8.out nm HNOT.out
              have HNO := Lib.hid hno
              clear hno hB8 hJ8
              apply cut_region (R := fun w' => (∃ esN', SvJ N D B (sk.ns ++ [nm]) (List.replicate (sk.ns ++ [nm]).length (-1)) (sk.ns ++ [nm]) sk.us sk.ids w' v1 (.slice (some ⟨g7, 0, none⟩) (rl.length + 1) c7') v3 esN' esI) ∧ FrB B w8 w' ∧ Blk w' I 37 #[.int .i64 kind, .int .i64 level, .string (bs info), .string (bs text), .string (bs dest), .string (bs title), .string (bs id), .slice aC cls.length cC, .slice aP prs.length cP, .slice aL line.length cL, .slice aK kids.length cK])
              · intro HC
                go_region_with (first | (go_at_call 22; refine HD8.out.mono ?_; rintro e w9 ⟨rfl, hk9⟩; have HK9 := Lib.hid ((kept_drewN w8 1).trans hk9); have y9 : w9.cell? ⟨B + 5, 3, none⟩ = some (.map (some (B + 2))) := (HJ8.out.blk.kept HK9.out).cell 3 _ rfl; have up := insT (P := Try.prog) Try.underlying89 Try.underlying9 w9 (B + 2) esN nm (.int .i64 (sk.ns.length : Nat)) (HJ8.out.mn.kept HK9.out) HNO.out; clear hk9))
                all_goals
                  have hJ9 := HJ8.out.kept HK9.out
                  have hO9 := putT_only w9 (B + 2) (esN ++ [(nm, .int .i64 (sk.ns.length : Nat))])
                  have hre : List.replicate (sk.ns ++ [nm]).length (-1 : Int) = rl ++ [-1] := by rw [List.length_append, List.length_singleton, List.replicate_succ', ← HRL.out]
                  refine HC _ ⟨⟨esN ++ [(nm, .int .i64 (sk.ns.length : Nat))], ?_⟩, ⟨((Only.of_kept HK9.out).trans hO9).mono (fun i _ q => by first | exact q.elim | omega), fun g cs q => (q.kept HK9.out).onl hO9 (fun r => by subst r; exact mapT_no_blk hJ9.mn (q.kept HK9.out))⟩, (HB8.out.kept HK9.out).onl hO9 (by omega)⟩
                  rw [hre]
                  refine hJ9.maps hD hO9 (fun i q => .inl q) (putT_map w9 (B + 2) _ hJ9.mn.lt) (hJ9.mi.only hO9 (by omega)) (fun i m hi => ?_) (fun k hk => ?_) hJ9.ids
                  · rw [getT_snoc HNO.out]
                    rcases Nat.lt_or_ge i sk.ns.length with q | q
                    · rw [List.getElem?_append_left q] at hi
                      have hm : m ≠ nm := fun e => HNOT.out (by rw [← e]; exact List.mem_of_getElem? hi)
                      rw [if_neg hm]; exact hJ9.inn i m hi
                    · rw [List.getElem?_append_right q] at hi
                      have h0 : i - sk.ns.length = 0 := by
                        have := (List.getElem?_eq_some_iff.1 hi).1
                        simpa using this
                      rw [h0] at hi
                      have hm : m = nm := by cases hi; rfl
                      rw [if_pos hm]
                      have hi2 : i = sk.ns.length := by omega
                      rw [hi2]
                  · rw [getT_snoc HNO.out, if_neg (fun e => hk (by rw [e]; simp))]
                    exact hJ9.out k (fun q => hk (List.mem_append.2 (.inl q)))
              · intro w9 hR
                obtain ⟨⟨esN', hJ9⟩, hf9, hB9⟩ := hR
                have HJ1 := Lib.hid hJ9
                have HB1 := Lib.hid hB9
                have HON1 := Lib.hid (HON8.out.trans hf9)
                have HLL1 := Lib.hid (HLL8.out.sam (Sam.only hf9.only (fun g _ q r => by omega)) (fun _ _ q => q))
                have HKK1 := Lib.hid (HKK8.out.sam (Sam.only hf9.only (fun g _ q r => by omega)) (fun _ _ q => q))
                clear y3 y3' r0 s0 r1 s1 r2 s2 r3 s3 r4 s4 r5 s5 r6 s6 r7 s7 r8 s8 r9 s9 r10 s10 hJ9 hf9 hB9 HON8 HLL8 HKK8 HJ8 HB8 HPP8 HD8 HNO HNOT hvI HRL hrl
                have HB9 := Lib.hid HB1.out
                have hJ := HJ1.out
                have y4 : w9.cell? ⟨B + 5, 4, none⟩ = some (.map (some (B + 3))) := hJ.blk.cell 4 _ rfl
                have y4' : w9.drew.cell? ⟨B + 5, 4, none⟩ = some (.map (some (B + 3))) := hJ.blk.cell 4 _ rfl
                have k6 : w9.cell? ⟨I, 6, none⟩ = some (.string (bs id)) := HB1.out.cell 6 _ rfl
                have k6' : w9.drew.cell? ⟨I, 6, none⟩ = some (.string (bs id)) := HB1.out.cell 6 _ rfl
                have HNOTE := Lib.hid (note_any (B + 3) esI id (sk.ns.length : Int) (!bb) w9.drew (hJ.mi.kept (kept_drewN w9 1)) (fun h1 h2 => hJ.ids id (HNID.out h1 h2)))
                unfold NoteP at HNOTE
                clear hJ
                go_wp2_with fail
                apply cut_region (R := fun w' => (∃ es', SvJ N D B (sk.ns ++ [nm]) (List.replicate (sk.ns ++ [nm]).length (-1)) (sk.ns ++ [nm]) sk.us IDS w' v1 (.slice (some ⟨g7, 0, none⟩) (rl.length + 1) c7') v3 esN' es') ∧ FrB B w9 w' ∧ Blk w' I 37 #[.int .i64 kind, .int .i64 level, .string (bs info), .string (bs text), .string (bs dest), .string (bs title), .string (bs id), .slice aC cls.length cC, .slice aP prs.length cP, .slice aL line.length cL, .slice aK kids.length cK])
                · intro HC
                  go_region_with (first | (go_at_call 56; refine HNOTE.out.mono ?_; rintro e w7 ⟨rfl, es', hm7, hes, hon7⟩))
                  all_goals
                    refine HC w7 ⟨⟨es', ?_⟩, ⟨((Only.of_kept (kept_drewN w9 1)).trans hon7).mono (fun i _ q => by first | exact q.elim | omega), fun g cs q => (q.kept (kept_drewN w9 1)).onl hon7 (fun r => by subst r; exact mapT_no_blk HJ1.out.mi q)⟩, (HB1.out.kept (kept_drewN w9 1)).onl hon7 (by omega)⟩
                    have hJ := HJ1.out.kept (kept_drewN w9 1)
                    exact hJ.maps hD hon7 (fun i q => .inr q) (hJ.mn.only hon7 (by omega)) hm7 hJ.inn hJ.out (fun k hk => hes k (hJ.ids k (HIDS.out k hk).1) (HIDS.out k hk).2)
                · intro w7 hR
                  obtain ⟨⟨es', hJ7⟩, hon7, hB7⟩ := hR
                  have HJ7 := Lib.hid hJ7
                  have HB7 := Lib.hid hB7
                  have HON7 := Lib.hid (HON1.out.trans hon7)
                  have HLL7 := Lib.hid (HLL1.out.sam (Sam.only hon7.only (fun g _ q r => by omega)) (fun _ _ q => q))
                  have HKK7 := Lib.hid (HKK1.out.sam (Sam.only hon7.only (fun g _ q r => by omega)) (fun _ _ q => q))
                  have y5 : w7.cell? ⟨B + 5, 5, none⟩ = some (.map (some (B + 4))) := hJ7.blk.cell 5 _ rfl
                  have k0 : w7.cell? ⟨I, 0, none⟩ = some (.int .i64 kind) := hB7.cell 0 _ rfl
                  have k2 : w7.cell? ⟨I, 2, none⟩ = some (.string (bs info)) := hB7.cell 2 _ rfl
                  clear hJ7 hB7 hon7 HJ1 HB1 HB9 HON1 HLL1 HKK1 HNOTE y4 y4' k6 k6' 
                  go_wp2_with fail
                  go_quiet (first | (go_at_call 56; refine Calls.quiet_of_same (note_no _ _ _ _)))
                  clear y5 k0 k2
                  have k9 : ∀ n, (w7.drewN n).cell? ⟨I, 9, none⟩ = some (.slice aL line.length cL) := fun n => HB7.out.cell 9 _ rfl
                  go_wp2_with fail
                  refine (HLIN.out _ (HLL7.out.kept (kept_drewN w7 _)) (Nat.le_trans hb HON7.out.size) ⟨_, _, _, _, _, HJ7.out.kept (kept_drewN w7 _)⟩).mono ?_
                  rintro e w8 ⟨rfl, hs8, hon8⟩
                  have HON8 := Lib.hid (HON7.out.trans ((FrB.of_kept (kept_drewN w7 _)).trans hon8))
                  have HB8 := Lib.hid (hon8.blk I _ (HB7.out.kept (kept_drewN w7 _)))
                  have HKK8 := Lib.hid ((HKK7.out.kept (kept_drewN w7 _)).sam (Sam.only hon8.only (fun g _ q r => by omega)) (fun _ _ q => q))
                  have HS8 := Lib.hid hs8
                  clear hs8 hon8 HLIN HON7 HB7 HJ7 HLL7 HKK7 k9
                  have ky0 : w8.cell? ⟨I, 0, none⟩ = some (.int .i64 kind) := (HB8.out).cell 0 _ rfl
                  have ky1 : w8.cell? ⟨I, 1, none⟩ = some (.int .i64 level) := (HB8.out).cell 1 _ rfl
                  have ky2 : w8.cell? ⟨I, 2, none⟩ = some (.string (bs info)) := (HB8.out).cell 2 _ rfl
                  have ky3 : w8.cell? ⟨I, 3, none⟩ = some (.string (bs text)) := (HB8.out).cell 3 _ rfl
                  have ky4 : w8.cell? ⟨I, 4, none⟩ = some (.string (bs dest)) := (HB8.out).cell 4 _ rfl
                  have ky5 : w8.cell? ⟨I, 5, none⟩ = some (.string (bs title)) := (HB8.out).cell 5 _ rfl
                  have ky6 : w8.cell? ⟨I, 6, none⟩ = some (.string (bs id)) := (HB8.out).cell 6 _ rfl
                  have ky7 : w8.cell? ⟨I, 7, none⟩ = some (.slice aC cls.length cC) := (HB8.out).cell 7 _ rfl
                  have ky8 : w8.cell? ⟨I, 8, none⟩ = some (.slice aP prs.length cP) := (HB8.out).cell 8 _ rfl
                  have ky9 : w8.cell? ⟨I, 9, none⟩ = some (.slice aL line.length cL) := (HB8.out).cell 9 _ rfl
                  have ky10 : w8.cell? ⟨I, 10, none⟩ = some (.slice aK kids.length cK) := (HB8.out).cell 10 _ rfl
                  have kz0 : w8.drew.cell? ⟨I, 0, none⟩ = some (.int .i64 kind) := (HB8.out).cell 0 _ rfl
                  have kz1 : w8.drew.cell? ⟨I, 1, none⟩ = some (.int .i64 level) := (HB8.out).cell 1 _ rfl
                  have kz2 : w8.drew.cell? ⟨I, 2, none⟩ = some (.string (bs info)) := (HB8.out).cell 2 _ rfl
                  have kz3 : w8.drew.cell? ⟨I, 3, none⟩ = some (.string (bs text)) := (HB8.out).cell 3 _ rfl
                  have kz4 : w8.drew.cell? ⟨I, 4, none⟩ = some (.string (bs dest)) := (HB8.out).cell 4 _ rfl
                  have kz5 : w8.drew.cell? ⟨I, 5, none⟩ = some (.string (bs title)) := (HB8.out).cell 5 _ rfl
                  have kz6 : w8.drew.cell? ⟨I, 6, none⟩ = some (.string (bs id)) := (HB8.out).cell 6 _ rfl
                  have kz7 : w8.drew.cell? ⟨I, 7, none⟩ = some (.slice aC cls.length cC) := (HB8.out).cell 7 _ rfl
                  have kz8 : w8.drew.cell? ⟨I, 8, none⟩ = some (.slice aP prs.length cP) := (HB8.out).cell 8 _ rfl
                  have kz9 : w8.drew.cell? ⟨I, 9, none⟩ = some (.slice aL line.length cL) := (HB8.out).cell 9 _ rfl
                  have kz10 : w8.drew.cell? ⟨I, 10, none⟩ = some (.slice aK kids.length cK) := (HB8.out).cell 10 _ rfl
                  have HG8 := Lib.hid (HGL.out w8.drew)
                  clear HGL
                  go_wp2_with fail
                  apply cut_region (R := fun w' => SvI N D B (svL (-1) true (xs.take (k + 1)) st).ns (svL (-1) true (xs.take (k + 1)) st).us (svL (-1) true (xs.take (k + 1)) st).ids w' ∧ FrB B w w')
                  · intro HC
                    go_region_with (first
                      | (go_at_call 46; refine HG8.out.mono ?_; rintro e w9 ⟨rfl, hk9⟩; have HK9 := Lib.hid hk9; have HCA := Lib.hid (HIH.out kids (.slice aK kids.length cK) (sk.ns.length : Int) GG ⟨sk.ns ++ [nm], sk.us ++ (deepL line).filter isUse, IDS⟩ w9 ((HKK8.out.kept (kept_drewN w8 1)).kept hk9) f9 HKO2.out HOS2.out (Nat.le_trans (Nat.le_trans hb HON8.out.size) hk9.size) ((HS8.out.kept (kept_drewN w8 1)).kept hk9)); have x10 : w9.cell? ⟨I, 10, none⟩ = some (.slice aK kids.length cK) := ((HB8.out.kept (kept_drewN w8 1)).kept hk9).cell 10 _ rfl; clear hk9)
                      | (go_at_call 37; refine HCA.out.mono ?_; rintro e w10 ⟨rfl, hs10, hon10⟩))
                    all_goals
                      refine HC w10 ⟨?_, HON8.out.trans ((FrB.of_kept ((kept_drewN w8 1).trans HK9.out)).trans hon10)⟩
                      rw [HT.out]; exact hs10
                  · intro w10 hR
                    obtain ⟨hS10, hon10⟩ := hR
                    have HS10 := Lib.hid hS10
                    have HON10 := Lib.hid hon10
                    clear hS10 hon10 HIH HS8 HB8 HKK8 HON8 HT HOS2 ky0 kz0 ky1 kz1 ky2 kz2 ky3 kz3 ky4 kz4 ky5 kz5 ky6 kz6 ky7 kz7 ky8 kz8 ky9 kz9 ky10 kz10
                    go_wp2_with fail
                    go_roundw
                    case rel => exact ⟨k + 1, by omega, by go_num, HS10.out, HON10.out⟩
                    case measure => simp [intOf]; omega
      · obtain rfl : k = xs.length := by omega
        have HF := Lib.hid (HFIN.out wr HSR.out HKR.out)
        clear HFIN HTK HIH HSR HKR HV HOK HS0 HOS
        go_wp2_with fail
        (try simp only [Exit.inBlock, Exit.then]); (try refine bodyPost_ret (results_none rfl _ _ _) rfl ?_)
        exact HF.out
end Go.Proofs.Ythbnahagfojfbaa
