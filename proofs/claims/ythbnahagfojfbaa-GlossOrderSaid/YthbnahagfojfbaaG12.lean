/- The plain text of inlines: writePlain and Plain of tree; useName of gloss. Conditions: lengths. -/
import Derived.Test.YthbnahagfojfbaaG06
import Derived.Test.YthbnahagfojfbaaG11
import Derived.Test.YthbnahagfojfbaaG03
import Derived.Great.BuildSlice

set_option linter.all false
namespace Go.Proofs.Ythbnahagfojfbaa
open Go.RowKit

theorem byteC_app (a b : Bs) : Lib.byteCells (a ++ b) = Lib.byteCells a ++ Lib.byteCells b := by simp [Lib.byteCells]
theorem plain1_mk (kind : Int) (text dest title id : Bs) (cls : List Bs) (prs : List Pr) (args : List Bs) (cits : List Cit) (kids : List Inl) : plain1 (.mk kind text dest title id cls prs args cits kids) = if kind = 1 ∨ kind = 4 ∨ kind = 5 then text else if kind = 2 ∨ kind = 3 then [32] else if 6 ≤ kind ∧ kind ≤ 11 then plainL kids else if kind = 16 then dest else [] := rfl
/-- What writePlain leaves. -/
def WplP (B b : Nat) (cs : List Value) (l : Bs) (w : World) (e : Ending) (w' : World) : Prop := e = .returned (.tuple #[]) ∧ Lib.IsBuilder 131 5 B b (cs ++ Lib.byteCells l) w' ∧ Below B w w'
set_option maxRecDepth 100000 in
set_option maxHeartbeats 6400000 in
theorem wplain_any : ∀ (n : Nat) (xs : List Inl) (v : Value) (B b : Nat) (cs : List Value) (w : World), Lns (fun g => g < B) n w v xs → xs.length ≤ 1000000 → okIL xs → Lib.IsBuilder 131 5 B b cs w → cs.length + (plainL xs).length ≤ 140737488355328 → B ≤ w.heap.size →
    Calls Try.prog 68 #[.pointer (some ⟨b, 0, none⟩), v] w (WplP B b cs (plainL xs) w) := by
  intro n
  induction n with
  | zero =>
    intro xs v B b cs w hv hN hok hb hl hB
    obtain rfl := hv.no
    obtain ⟨a, c, rfl, hc⟩ := hv.form
    have HFIN : WplP B b cs (plainL []) w (.returned (.tuple #[])) w := ⟨rfl, by show Lib.IsBuilder _ _ _ _ (cs ++ []) _; rw [List.append_nil]; exact hb, Below.refl _ _⟩
    clear hv hok hb hl
    go_enter Try.func68, Try.ntmps68
    go_wp2_with fail
    go_loopw [8] (fun i wr => i = .int .i64 0 ∧ w = wr) (fun i _ => 1)
    case atStart => exact ⟨rfl, rfl⟩
    case round =>
      obtain ⟨rfl, rfl⟩ := hrel
      go_wp2_with fail
      (try simp only [Exit.inBlock, Exit.then]); refine bodyPost_ret (results_none rfl _ _ _) rfl ?_
      exact HFIN
  | succ n ih =>
    intro xs v B b cs w hv hN hok hb hl hB
    have HV := Lib.hid hv
    have HOK := Lib.hid hok
    have HB0 : Hid (Lib.IsBuilder 131 5 B b (cs ++ Lib.byteCells (plainL (xs.take 0))) w) := by
      show Lib.IsBuilder _ _ _ _ (cs ++ []) _; rw [List.append_nil]; exact hb
    have HFIN : Hid (∀ w', Lib.IsBuilder 131 5 B b (cs ++ Lib.byteCells (plainL (xs.take xs.length))) w' → Below B w w' → WplP B b cs (plainL xs) w (.returned (.tuple #[])) w') := fun w' h k => ⟨rfl, by rw [List.take_length] at h; exact h, k⟩
    have HLE := Lib.hid (plainL_le xs)
    have HTK : Hid (∀ (k : Nat) (x : Inl), xs[k]? = some x → plainL (xs.take (k + 1)) = plainL (xs.take k) ++ plain1 x) := fun k x h => plainL_take h
    have HIH := Lib.hid ih
    unfold WplP at HIH
    obtain ⟨a, c, rfl, hc⟩ := hv.form
    generalize hP : WplP B b cs (plainL xs) w = P at *
    clear hP hv hok hb ih
    go_enter Try.func68, Try.ntmps68
    go_wp2_with fail
    go_loopw [8] (fun i wr => ∃ k : Nat, k ≤ xs.length ∧ i = .int .i64 k ∧ Hid (Lib.IsBuilder 131 5 B b (cs ++ Lib.byteCells (plainL (xs.take k))) wr) ∧ Hid (Below B w wr)) (fun i _ => xs.length - (intOf i).toNat)
    case atStart => exact ⟨0, Nat.zero_le _, rfl, HB0.out, Below.refl _ _⟩
    case round =>
      obtain ⟨k, hk, rfl, HBR, HKR⟩ := hrel
      have hBr : B ≤ wr.heap.size := Nat.le_trans hB HKR.out.size
      by_cases hlt : k < xs.length
      · obtain ⟨x, hx⟩ : ∃ x, xs[k]? = some x := ⟨_, List.getElem?_eq_getElem hlt⟩
        have HVR := Lib.hid (HV.out.sam (Sam.below HKR.out (fun g h => h)) (fun g _ h => h))
        have hfit := (okIL_at HOK.out x (List.mem_of_getElem? hx)).fit
        have hle := HLE.out (k + 1)
        have HT := Lib.hid (HTK.out k x hx)
        rw [HT.out] at hle
        obtain ⟨g, o, vC, vP, vA, vT, vK, rfl, hg, -, -, -, ⟨d0, d1, d2, -, -, -, -, -, -, d9⟩, -, -, -, -, -, hK⟩ := Lns.at_ HVR.out k x hx
        obtain ⟨kind, text, dest, title, id, cls, prs, args, cits, kids⟩ := x
        simp only [Inl.kind, Inl.text, Inl.dest, Inl.kids] at d0 d1 d2 d9 hK hfit
        rw [plain1_mk] at HT hle
        obtain ⟨⟨f1, f2, -, -, -, -, -, -, f9⟩, f10⟩ := hfit
        have HKK := Lib.hid hK
        have HKO := Lib.hid f10
        rw [List.length_append] at hle
        have HNXT : Hid (∀ l w', plainL (xs.take (k + 1)) = plainL (xs.take k) ++ l → Lib.IsBuilder 131 5 B b (cs ++ Lib.byteCells (plainL (xs.take k)) ++ Lib.byteCells l) w' → Lib.IsBuilder 131 5 B b (cs ++ Lib.byteCells (plainL (xs.take (k + 1)))) w') := fun l w' e h => by
          rw [e, byteC_app, ← List.append_assoc]; exact h
        clear hK f10 hx HVR HTK HLE
        have hcl : (cs ++ Lib.byteCells (plainL (xs.take k))).length = cs.length + (plainL (xs.take k)).length := by simp [Lib.byteCells]
        generalize hQ : cs ++ Lib.byteCells (plainL (xs.take k)) = Q at *
        clear hQ
        generalize hp0 : plainL (xs.take k) = p0 at *
        generalize plainL xs = pA at *
        clear hp0
        by_cases hA : kind = 1 ∨ kind = 4 ∨ kind = 5
        · rw [if_pos hA] at HT hle
          have HST := Lib.hid (fun w h h2 => bld_string B b Q text w h (by omega) h2)
          have HN := Lib.hid (HNXT.out text)
          rcases hA with rfl | rfl | rfl
          all_goals
            clear HNXT
            go_wp2_with fail
            refine (HST.out _ HBR.out hBr).mono ?_
            rintro e w2 ⟨rfl, hb2, hk2⟩
            have HB2 := Lib.hid (HN.out w2 HT.out (.inr hb2))
            have HK2 := Lib.hid (Below.trans HKR.out hk2)
            clear hb2 hk2 HN HST
            go_wp2_with fail
            go_roundw
            case rel => exact ⟨k + 1, by omega, by go_num, HB2.out, HK2.out⟩
            case measure => simp [intOf]; omega
        · rw [if_neg hA] at HT hle
          obtain ⟨n1, n4, n5⟩ : kind ≠ 1 ∧ kind ≠ 4 ∧ kind ≠ 5 := ⟨fun e => hA (.inl e), fun e => hA (.inr (.inl e)), fun e => hA (.inr (.inr e))⟩
          by_cases hS : kind = 2 ∨ kind = 3
          · rw [if_pos hS] at HT hle
            have HST := Lib.hid (fun w h h2 => bld_byte B b Q 32 w h (by simp only [List.length_singleton] at hle; omega) h2)
            have HN := Lib.hid (HNXT.out [32])
            rcases hS with rfl | rfl
            all_goals
              clear HNXT n1 n4 n5 hA
              go_wp2_with fail
              refine (HST.out _ HBR.out hBr).mono ?_
              rintro e w2 ⟨rfl, hb2, hk2⟩
              have HB2 := Lib.hid (HN.out w2 HT.out (.inr hb2))
              have HK2 := Lib.hid (Below.trans HKR.out hk2)
              clear hb2 hk2 HN HST
              go_wp2_with fail
              go_roundw
              case rel => exact ⟨k + 1, by omega, by go_num, HB2.out, HK2.out⟩
              case measure => simp [intOf]; omega
          · rw [if_neg hS] at HT hle
            obtain ⟨n2, n3⟩ : kind ≠ 2 ∧ kind ≠ 3 := ⟨fun e => hS (.inl e), fun e => hS (.inr e)⟩
            by_cases hD : 6 ≤ kind ∧ kind ≤ 11
            · rw [if_pos hD] at HT hle
              have HST := Lib.hid (fun w h1 h2 h3 => HIH.out kids vK B b Q w h1 f9 HKO.out h2 (by omega) h3)
              have HN := Lib.hid (HNXT.out (plainL kids))
              obtain rfl | rfl | rfl | rfl | rfl | rfl : kind = 6 ∨ kind = 7 ∨ kind = 8 ∨ kind = 9 ∨ kind = 10 ∨ kind = 11 := by omega
              all_goals
                clear HNXT n1 n2 n3 n4 n5 hA hS hD HIH
                go_wp2_with fail
                refine (HST.out _ HKK.out HBR.out hBr).mono ?_
                rintro e w2 ⟨rfl, hb2, hk2⟩
                have HB2 := Lib.hid (HN.out w2 HT.out hb2)
                have HK2 := Lib.hid (Below.trans HKR.out hk2)
                clear hb2 hk2 HN HST
                go_wp2_with fail
                go_roundw
                case rel => exact ⟨k + 1, by omega, by go_num, HB2.out, HK2.out⟩
                case measure => simp [intOf]; omega
            · rw [if_neg hD] at HT hle
              by_cases h16 : kind = 16
              · rw [if_pos h16] at HT hle
                subst h16
                have HST := Lib.hid (fun w h h2 => bld_string B b Q dest w h (by omega) h2)
                have HN := Lib.hid (HNXT.out dest)
                clear HNXT n1 n2 n3 n4 n5 hA hS hD HIH
                go_wp2_with fail
                refine (HST.out _ HBR.out hBr).mono ?_
                rintro e w2 ⟨rfl, hb2, hk2⟩
                have HB2 := Lib.hid (HN.out w2 HT.out (.inr hb2))
                have HK2 := Lib.hid (Below.trans HKR.out hk2)
                clear hb2 hk2 HN HST
                go_wp2_with fail
                go_roundw
                case rel => exact ⟨k + 1, by omega, by go_num, HB2.out, HK2.out⟩
                case measure => simp [intOf]; omega
              · rw [if_neg h16] at HT hle
                have HB2 := Lib.hid (HNXT.out [] wr HT.out (by show Lib.IsBuilder _ _ _ _ (Q ++ []) _; rw [List.append_nil]; exact HBR.out))
                have q1 : (kind == 1) = false := by simpa using n1
                have q2 : (kind == 2) = false := by simpa using n2
                have q3 : (kind == 3) = false := by simpa using n3
                have q4 : (kind == 4) = false := by simpa using n4
                have q5 : (kind == 5) = false := by simpa using n5
                have q6 : (kind == 6) = false := by rw [beq_eq_false_iff_ne]; omega
                have q7 : (kind == 7) = false := by rw [beq_eq_false_iff_ne]; omega
                have q8 : (kind == 8) = false := by rw [beq_eq_false_iff_ne]; omega
                have q9 : (kind == 9) = false := by rw [beq_eq_false_iff_ne]; omega
                have q10 : (kind == 10) = false := by rw [beq_eq_false_iff_ne]; omega
                have q11 : (kind == 11) = false := by rw [beq_eq_false_iff_ne]; omega
                have q16 : (kind == 16) = false := by simpa using h16
                clear HNXT n1 n2 n3 n4 n5 hA hS hD h16 HIH
                go_wp2_with fail
                go_roundw
                case rel => exact ⟨k + 1, by omega, by go_num, HB2.out, HKR.out⟩
                case measure => simp [intOf]; omega
      · obtain rfl : k = xs.length := by omega
        have HF := Lib.hid (HFIN.out wr HBR.out HKR.out)
        clear HFIN HTK HLE HBR HKR
        go_wp2_with fail
        (try simp only [Exit.inBlock, Exit.then]); refine bodyPost_ret (results_none rfl _ _ _) rfl ?_
        exact HF.out
set_option maxRecDepth 100000 in
set_option maxHeartbeats 1600000 in
theorem plain_any {S : Nat → Prop} (n : Nat) (xs : List Inl) (v : Value) (w : World) (hv : Lns S n w v xs) (hN : xs.length ≤ 1000000) (hok : okIL xs) (hl : (plainL xs).length ≤ 100000000000) :
    Calls Try.prog 54 #[v] w fun e w' => e = .returned (.string (bs (plainL xs))) ∧ Kept w w' := by
  have HV := Lib.hid (hv.mono (S' := fun g => g < w.heap.size) (fun g hg _ => hg))
  have hB0 := Lib.fresh_isBuilder 131 5 w
  have HK0 := Lib.hid (kept_alloc w (.cells #[.pointer none, .slice none 0 0] 131))
  have HW := Lib.hid (wplain_any n xs v w.heap.size w.heap.size [] _ (HV.out.kept HK0.out) hN hok hB0 (by simp; omega) HK0.out.size)
  unfold WplP at HW
  obtain ⟨a, c, rfl, hc⟩ := hv.form
  generalize plainL xs = T at *
  clear hv hok
  go_enter Try.func54, Try.ntmps54
  go_wp2_with fail
  refine HW.out.mono ?_
  rintro e w1 ⟨rfl, hb1, hk1⟩
  have HB1 : Hid (Lib.IsBuilder 131 5 w.heap.size w.heap.size (Lib.byteCells T) w1) := hb1
  have HK1 := Lib.hid (HK0.out.trans' hk1)
  have hsz : w.heap.size ≤ w1.heap.size := HK1.out.size
  clear hb1 hk1 HW hB0
  go_wp2_with fail
  refine (Try.Builder_String_any w.heap.size w.heap.size T _ HB1.out hsz).mono ?_
  rintro e w5 ⟨rfl, hb5⟩
  have HK5 := Lib.hid (HK1.out.trans' hb5)
  clear hb5
  go_wp2_with fail
  go_ret
  exact ⟨rfl, HK5.out⟩
set_option maxRecDepth 100000 in
set_option maxHeartbeats 1600000 in
theorem usename_any {S : Nat → Prop} (n : Nat) (kind : Int) (text dest title id : Bs) (vC vP vA vT vK : Value) (ps : List Pr) (xs : List Inl) (w : World) (hC : vC.oneCell' = true) (hv : Prs w vP ps) (hA : vA.oneCell' = true) (hT : vT.oneCell' = true) (hk : Lns S n w vK xs) (hn : ps.length ≤ 1100000) (hN : xs.length ≤ 1000000) (hok : okIL xs) (hl : (plainL xs).length ≤ 100000000000) :
    Calls Try.prog 32 #[inV kind text dest title id vC vP vA vT vK] w fun e w' => e = .returned (.string (bs ((getP ps kName).getD (plainL xs)))) ∧ Kept w w' := by
  have HK0 := Lib.hid (kept_alloc w (.cells #[.int .i64 kind, .string (bs text), .string (bs dest), .string (bs title), .string (bs id), vC, vP, vA, vT, vK] 41))
  have HB0 := Lib.hid (Blk.new w 41 #[.int .i64 kind, .string (bs text), .string (bs dest), .string (bs title), .string (bs id), vC, vP, vA, vT, vK])
  have HG := Lib.hid (fun w h => aget_any id vC vP ps kName w hC h hn)
  have HPL := Lib.hid (fun w h => plain_any (S := S) n xs vK w h hN hok hl)
  unfold GetP kName atV at HG
  have HV := Lib.hid hv
  have HKK := Lib.hid hk
  have hP : vP.oneCell' = true := by obtain ⟨a, c, rfl, _⟩ := hv; rfl
  have hK1 := hk.one
  unfold kName
  clear hv hk hok
  generalize plainL xs = pl at *
  cases hg : getP ps [110, 97, 109, 101] with
  | some r =>
    rw [hg] at HG
    clear hg
    simp only [Option.getD_some, Option.isSome_some] at HG ⊢
    go_enter Try.func32, Try.ntmps32
    go_wp2_with fail
    refine (HG.out _ (HV.out.kept HK0.out)).mono ?_
    rintro e w1 ⟨rfl, hk⟩
    have HK1 := Lib.hid (HK0.out.trans hk)
    clear hk
    go_wp2_with fail
    go_ret
    exact ⟨rfl, HK1.out⟩
  | none =>
    rw [hg] at HG
    clear hg
    simp only [Option.getD_none, Option.isSome_none] at HG ⊢
    go_enter Try.func32, Try.ntmps32
    go_wp2_with fail
    generalize w.alloc _ = w0 at *
    generalize w.heap.size = B at *
    refine (HG.out _ (HV.out.kept HK0.out)).mono ?_
    rintro e w1 ⟨rfl, hk⟩
    have HK1 := Lib.hid (HK0.out.trans hk)
    have b9 : w1.cell? ⟨B, 9, none⟩ = some vK := (HB0.out.kept hk).cell 9 _ rfl
    have bz := (HB0.out.kept hk).lt
    clear hk
    go_wp2_with fail
    refine (HPL.out _ (HKK.out.kept HK1.out)).mono ?_
    rintro e w2 ⟨rfl, hk⟩
    have HK2 := Lib.hid (HK1.out.trans hk)
    clear hk
    go_wp2_with fail
    go_ret
    exact ⟨rfl, HK2.out⟩
end Go.Proofs.Ythbnahagfojfbaa

/- An inline appended behind a pointer, in a region that draws its order. Conditions: lengths. -/
set_option linter.all false
namespace Go.Proofs.Ythbnahagfojfbaa
open Go.RowKit

theorem Try.sizeIn : (Try.prog.info? 41).map (fun x => x.size) = some 10 := by kernel_rfl
theorem Try.infoIn : (Try.prog.info? 41).map (fun i => (i.zero, i.size, i.bytes)) = some (some (.agg #[.int .i64 0, .string ⟨#[]⟩, .string ⟨#[]⟩, .string ⟨#[]⟩, .string ⟨#[]⟩, .slice none 0 0, .slice none 0 0, .slice none 0 0, .slice none 0 0, .slice none 0 0]), 10, 192) := by kernel_rfl
/-- The cells of an inline that is zero. -/
def zeroIn : List Value := [.int .i64 0, .string ⟨#[]⟩, .string ⟨#[]⟩, .string ⟨#[]⟩, .string ⟨#[]⟩, .slice none 0 0, .slice none 0 0, .slice none 0 0, .slice none 0 0, .slice none 0 0]
theorem zero_in (n : Nat) (S : Nat → Prop) (w : World) : InlK n S w zeroIn (.mk 0 [] [] [] [] [] [] [] [] []) :=
  ⟨_, _, _, _, _, rfl, ⟨Strs.none_ w, InB.nil _ _⟩, ⟨Prs.none_ w, InB.nil _ _⟩, ⟨Strs.none_ w, InB.nil _ _⟩, RowR.none_ _ _ _ _, Lns.none_ _ _ _⟩
theorem put_at (a : Act) (d : Nat) (v : Value) (s : Nat) (h : d < a.tmps.size) : (a.put (some d) v).tmps[s]? = if s = d then some v else a.tmps[s]? := by
  show (a.tmps.setIfInBounds d v)[s]? = _
  by_cases q : s = d
  · subst q; rw [if_pos rfl, Array.getElem?_setIfInBounds_self_of_lt h]
  · rw [if_neg q, Array.getElem?_setIfInBounds_ne (fun e => q e.symm)]
theorem put_size (a : Act) (d : Nat) (v : Value) : (a.put (some d) v).tmps.size = a.tmps.size := by
  show (a.tmps.setIfInBounds d v).size = _
  rw [Array.size_setIfInBounds]
theorem act_ext {a b : Act} (h1 : a.defers = b.defers) (h2 : ∀ s : Nat, a.tmps[s]? = b.tmps[s]?) : a = b := by
  obtain ⟨t, d⟩ := a
  obtain ⟨t', d'⟩ := b
  obtain rfl : t = t' := Array.ext_getElem? h2
  obtain rfl : d = d' := h1
  rfl
theorem slots6 {D : Nat → Option Nat} {V : Nat → Value} {L : Array Bool} {a0 a : Act} (S : Slots 8 D V L a0 a) (hD : ∀ i, D i = if i < 6 then some (27 + i) else none) (hon : ∀ i, i < 8 → On L i) (hz : 33 ≤ a0.tmps.size) : a = (((((a0.put (some 27) (V 0)).put (some 28) (V 1)).put (some 29) (V 2)).put (some 30) (V 3)).put (some 31) (V 4)).put (some 32) (V 5) := by
  have hdf : ∀ (b : Act) (d : Nat) (u : Value), (b.put (some d) u).defers = b.defers := fun _ _ _ => rfl
  refine act_ext (by rw [hdf, hdf, hdf, hdf, hdf, hdf]; exact S.defers) (fun s => ?_)
  have v (i : Nat) (h : i < 6) := S.val i (27 + i) (by omega) (by rw [hD, if_pos h]) (hon i (by omega))
  rw [put_at _ _ _ _ (by simp only [put_size]; omega)]
  by_cases q5 : s = 32
  · subst q5; rw [if_pos rfl]; exact v 5 (by omega)
  rw [if_neg q5, put_at _ _ _ _ (by simp only [put_size]; omega)]
  by_cases q4 : s = 31
  · subst q4; rw [if_pos rfl]; exact v 4 (by omega)
  rw [if_neg q4, put_at _ _ _ _ (by simp only [put_size]; omega)]
  by_cases q3 : s = 30
  · subst q3; rw [if_pos rfl]; exact v 3 (by omega)
  rw [if_neg q3, put_at _ _ _ _ (by simp only [put_size]; omega)]
  by_cases q2 : s = 29
  · subst q2; rw [if_pos rfl]; exact v 2 (by omega)
  rw [if_neg q2, put_at _ _ _ _ (by simp only [put_size]; omega)]
  by_cases q1 : s = 28
  · subst q1; rw [if_pos rfl]; exact v 1 (by omega)
  rw [if_neg q1, put_at _ _ _ _ (by omega)]
  by_cases q0 : s = 27
  · subst q0; rw [if_pos rfl]; exact v 0 (by omega)
  rw [if_neg q0]
  refine S.rest s (fun i hi h => ?_)
  rw [hD] at h
  by_cases q : i < 6
  · rw [if_pos q] at h
    have := Option.some.inj h; omega
  · rw [if_neg q] at h; cases h
def puD (i : Nat) : Option Nat := if i < 6 then some (27 + i) else none
def puV (v : Value) (cells : List Value) (m Z g cap : Nat) : Nat → Value
  | 0 => v
  | 1 => .agg cells.toArray
  | 2 => .int .i64 m
  | 3 => .slice (some ⟨Z, 0, none⟩) 1 1
  | 4 => .slice (some ⟨g, 0, none⟩) (m + 1) cap
  | _ => .pointer (some ⟨g, m * 10, none⟩)
theorem puV_eq (v : Value) (cells : List Value) (m Z g cap g' cap' : Nat) (j : Nat) (h : j < 4) : puV v cells m Z g cap j = puV v cells m Z g' cap' j := by
  match j, h with
  | 0, _ | 1, _ | 2, _ | 3, _ => rfl
open Classical in
theorem ifc {α : Type} {p q : Prop} (h : p ↔ q) (a b : α) : (if p then a else b) = if q then a else b := by
  by_cases r : p
  · rw [if_pos r, if_pos (h.1 r)]
  · rw [if_neg r, if_neg (fun s => r (h.2 s))]
open Classical in
/-- What is known between the operations. -/
structure PuJ (A : Nat → Prop) (N O I Z base : Nat) (v : Value) (xs : List Inl) (cells : List Value) (x : Inl) (w6 : World) (a0 : Act) (L : Array Bool) (a : Act) (w : World) (g cap : Nat) : Prop where
  size : L.size = 8
  slots : Slots 8 puD (puV v cells xs.length Z g cap) L a0 a
  c4 : On L 4 → ∀ j, j < 4 → On L j
  c5 : On L 5 → On L 4
  c6 : On L 6 → On L 4
  c7 : On L 7 → On L 4
  lo : ¬ On L 4 → Kept w6 w ∧ (¬ On L 3 → w.heap.size = Z) ∧ (On L 3 → Blk w Z 41 zeroIn.toArray)
  hi : On L 4 → OutG (InlK N) 10 A base 41 w (.slice (some ⟨g, 0, none⟩) (xs.length + 1) cap) (xs ++ [if On L 6 then x else .mk 0 [] [] [] [] [] [] [] [] []]) ∧ Blk w O 30 #[if On L 7 then .slice (some ⟨g, 0, none⟩) (xs.length + 1) cap else v] ∧ Blk w I 41 cells.toArray ∧ InlK N (fun g' => A g' ∧ g ≠ g') w cells x ∧ Only (fun i => i = O ∨ base ≤ i) w6 w ∧ g ≠ I
def PuI (A : Nat → Prop) (N O I Z base : Nat) (v : Value) (xs : List Inl) (cells : List Value) (x : Inl) (w6 : World) (a0 : Act) (L : Array Bool) (a : Act) (w : World) : Prop := ∃ g cap, PuJ A N O I Z base v xs cells x w6 a0 L a w g cap
theorem puD_inj (i : Nat) : ∀ j d, j < 8 → puD i = some d → puD j = some d → j = i := by
  intro j d _ h1 h2
  unfold puD at h1 h2
  split at h1 <;> split at h2 <;> simp_all
  omega
theorem puD_lt (n i : Nat) (hz : 33 ≤ n) : ∀ d, puD i = some d → d < n := by
  intro d h1
  unfold puD at h1
  split at h1 <;> simp at h1
  omega
theorem pu_quiet {A : Nat → Prop} {N O I Z base : Nat} {v : Value} {xs : List Inl} {cells : List Value} {x : Inl} {w6 : World} {a0 : Act} {L : Array Bool} {a : Act} {w : World} {g cap : Nat} (h : PuJ A N O I Z base v xs cells x w6 a0 L a w g cap) (hz : 33 ≤ a0.tmps.size) (i : Nat) (hi : i < 8) (h3 : i ≠ 3) (h4 : i ≠ 4) (h6 : i ≠ 6) (h7 : i ≠ 7) (h5 : i = 5 → On L 4) :
    PuI A N O I Z base v xs cells x w6 a0 (L.setIfInBounds i true) (a.put (puD i) (puV v cells xs.length Z g cap i)) w := by
  refine ⟨g, cap, ?_, h.slots.put i hi (by rw [h.size]; exact hi) (puD_inj i) (puD_lt _ i hz) _ (fun _ => rfl) (fun _ _ _ => rfl), ?_, ?_, ?_, ?_, ?_, ?_⟩
  · rw [Array.size_setIfInBounds]; exact h.size
  · intro q j hj
    exact on_mono (h.c4 ((on_ne h4).1 q) j hj)
  · intro q
    rcases on_set q with q | q
    · exact on_mono (h5 q.symm)
    · exact on_mono (h.c5 q)
  · intro q; exact on_mono (h.c6 ((on_ne h6).1 q))
  · intro q; exact on_mono (h.c7 ((on_ne h7).1 q))
  · intro q
    obtain ⟨k1, k2, k3⟩ := h.lo (fun r => q (on_mono r))
    exact ⟨k1, fun r => k2 (fun r' => r (on_mono r')), fun r => k3 ((on_ne h3).1 r)⟩
  · intro q
    have := h.hi ((on_ne h4).1 q)
    rw [ifc (on_ne h6), ifc (on_ne h7)]
    exact this
set_option maxRecDepth 100000 in
set_option maxHeartbeats 3200000 in
theorem push_region {A : Nat → Prop} {N O I base : Nat} {v : Value} {xs : List Inl} {cells : List Value} {x : Inl} {w : World} {a : Act} {Q : Exit → Act → World → Prop} {id : Nat} {o0 o1 o2 o3 o4 o5 o6 o7 : Oper}
    (p0 : o0.op = .load 30 (.tmp 1)) (p1 : o1.op = .load 41 (.tmp 5)) (p2 : o2.op = .call { callee := .builtin .len, args := #[.tmp 27], argTypes := #[30] })
    (p3 : o3.op = .buildSlice 30 1 #[(0, .const (.agg zeroIn.toArray))]) (p4 : o4.op = .call { callee := .builtin .append, args := #[.tmp 27, .tmp 30], argTypes := #[30, 30] })
    (p5 : o5.op = .indexAddr 30 (.tmp 31) (.tmp 29)) (p6 : o6.op = .store 41 (.tmp 32) (.tmp 28)) (p7 : o7.op = .store 30 (.tmp 1) (.tmp 31))
    (q0 : o0.guard = none) (q1 : o1.guard = none) (q2 : o2.guard = none) (q3 : o3.guard = none) (q4 : o4.guard = none) (q5 : o5.guard = none) (q6 : o6.guard = none) (q7 : o7.guard = none)
    (d0 : o0.dst = some 27) (d1 : o1.dst = some 28) (d2 : o2.dst = some 29) (d3 : o3.dst = some 30) (d4 : o4.dst = some 31) (d5 : o5.dst = some 32) (d6 : o6.dst = none) (d7 : o7.dst = none)
    (hm : Try.prog.follows .mixedOrders = true) (hac : acB #[o0, o1, o2, o3, o4, o5, o6, o7] = true)
    (e2 : ⟨0, .data⟩ ∈ o2.after) (e40 : ⟨0, .data⟩ ∈ o4.after) (e43 : ⟨3, .data⟩ ∈ o4.after) (e41 : ⟨1, .phase⟩ ∈ o4.after) (e42 : ⟨2, .phase⟩ ∈ o4.after) (e54 : ⟨4, .data⟩ ∈ o5.after) (e52 : ⟨2, .data⟩ ∈ o5.after) (e65 : ⟨5, .data⟩ ∈ o6.after) (e61 : ⟨1, .data⟩ ∈ o6.after) (e64 : ⟨4, .chain⟩ ∈ o6.after) (e74 : ⟨4, .data⟩ ∈ o7.after)
    (hz : 33 ≤ a.tmps.size) (hx1 : a.eval (.tmp 1) = .pointer (some ⟨O, 0, none⟩)) (hx5 : a.eval (.tmp 5) = .pointer (some ⟨I, 0, none⟩))
    (hcl : cells.length = 10) (hO : Blk w O 30 #[v]) (hI : Blk w I 41 cells.toArray) (hv : OutG (InlK N) 10 A base 41 w v xs)
    (hAO : ∀ g, A g → g ≠ O) (hvO : v.ownBlock ≠ some O) (hvI : v.ownBlock ≠ some I) (hOI : O ≠ I) (hOb : O < base) (hbI : base ≤ I) (hy : InlK N (fun g => A g ∧ v.ownBlock ≠ some g) w cells x) (hlen : xs.length + 1 ≤ 1000001)
    (h : ∀ u0 u1 u2 u3 u4 u5 g cap w', OutG (InlK N) 10 A base 41 w' (.slice (some ⟨g, 0, none⟩) (xs.length + 1) cap) (xs ++ [x]) → Blk w' O 30 #[.slice (some ⟨g, 0, none⟩) (xs.length + 1) cap] → Only (fun i => i = O ∨ base ≤ i) w w' →
      Q .normal ((((((a.put (some 27) u0).put (some 28) u1).put (some 29) u2).put (some 30) u3).put (some 31) u4).put (some 32) u5) w') :
    (Code.region id #[o0, o1, o2, o3, o4, o5, o6, o7] true).wp Try.prog Q a w := by
  obtain ⟨i0, hi, hz0, hz1, hz2⟩ := info_parts Try.infoIn
  have hbase : base ≤ w.heap.size := by have := hI.lt; omega
  refine wp_region_inv (PuI A N O I w.heap.size base v xs cells x w a) hm (ac_of hac) ?_ ?_ ?_
  · have hno : ∀ i, ¬ On (Array.replicate 8 false) i := fun i => not_on_start 8 i
    exact ⟨0, 0, rfl, Slots.start 8 puD _ 8 a, fun q => absurd q (hno _), fun q => absurd q (hno _), fun q => absurd q (hno _), fun q => absurd q (hno _), fun _ => ⟨kept_drewN w 1, fun _ => rfl, fun q => absurd q (hno _)⟩, fun q => absurd q (hno _)⟩
  · intro L a1 w1 hI hall
    obtain ⟨g, cap, J⟩ := hI
    have hon : ∀ i, i < 8 → On L i := fun i hi => by
      have := hall i hi
      have hlt : i < L.size := by have := J.size; omega
      unfold On
      rw [Array.getD_eq_getD_getElem?, Array.getElem?_eq_getElem hlt] at this ⊢
      exact this
    obtain ⟨r1, r2, _, _, r5, _⟩ := J.hi (hon 4 (by omega))
    rw [if_pos (hon 6 (by omega))] at r1
    rw [if_pos (hon 7 (by omega))] at r2
    rw [slots6 J.slots (fun i => rfl) hon hz]
    exact h _ _ _ _ _ _ g cap w1 r1 r2 r5
  · intro L a1 w1 i hII hi8 hn hed
    obtain ⟨g, cap, J⟩ := hII
    have S := J.slots
    have n0 := not_on hn
    have sx1 := (S.ext 1 (by intro i _; unfold puD; split <;> simp; omega)).trans hx1
    have sx5 := (S.ext 5 (by intro i _; unfold puD; split <;> simp; omega)).trans hx5
    replace hi8 : i < 8 := hi8
    obtain rfl | rfl | rfl | rfl | rfl | rfl | rfl | rfl : i = 0 ∨ i = 1 ∨ i = 2 ∨ i = 3 ∨ i = 4 ∨ i = 5 ∨ i = 6 ∨ i = 7 := by omega
    · -- load of the list
      have n4 : ¬ On L 4 := fun q => n0 (J.c4 q 0 (by omega))
      obtain ⟨hk, -, -⟩ := J.lo n4
      have t := (hO.kept hk).cell 0 _ rfl
      refine step_value (o := o0) rfl q0 (v := v) (w' := w1) ?_ ?_
      · simp only [execOp, p0, sx1]; simp [go_sem, t, Try.underlying30]
      · rw [d0]; exact pu_quiet J hz 0 (by omega) (by omega) (by omega) (by omega) (by omega) (by omega)
    · -- load of the element
      have n4 : ¬ On L 4 := fun q => n0 (J.c4 q 1 (by omega))
      obtain ⟨hk, -, -⟩ := J.lo n4
      refine op_list (o := o1) rfl ?_
      refine wpList_load_blk q1 41 (.tmp 5) p1 I cells.toArray sx5 (hI.kept hk) _ Try.underlying41 rfl ?_ ?_
      · rw [List.size_toArray, hcl]; exact Try.sizeIn
      · rw [d1]; exact pu_quiet J hz 1 (by omega) (by omega) (by omega) (by omega) (by omega) (by omega)
    · -- its length
      have z : a1.eval (.tmp 27) = v := S.eval 0 27 (by omega) rfl (hed _ rfl _ e2 rfl)
      obtain ⟨av, cv, hvv, _, _⟩ := hv.form
      refine step_value (o := o2) rfl q2 (v := .int .i64 xs.length) (w' := w1) ?_ ?_
      · simp only [execOp, p2, resolve, invoke, builtin, Sem.run_bind, Sem.run_pure, Result.andThen_ok, List.map_toArray, List.map_cons, List.map_nil, z, hvv]; simp [go_sem, Try.underlying30]
      · rw [d2]; exact pu_quiet J hz 2 (by omega) (by omega) (by omega) (by omega) (by omega) (by omega)
    · -- a row of one
      have n4 : ¬ On L 4 := fun q => n0 (J.c4 q 3 (by omega))
      obtain ⟨hk, hsz, -⟩ := J.lo n4
      replace hsz := hsz n0
      refine op_list (o := o3) rfl ?_
      refine wpList_buildSlice q3 30 41 1 _ p3 zeroIn.toArray i0 _ Try.underlying30 hi hz0 (by rw [hz1]; decide) (by rw [hz1]; decide) (by rw [hz1]; kernel_rfl) ?_
      rw [d3, hsz]
      refine ⟨g, cap, by rw [Array.size_setIfInBounds]; exact J.size, S.put 3 (by omega) (by rw [J.size]; omega) (puD_inj 3) (puD_lt _ 3 hz) _ (fun _ => rfl) (fun _ _ _ => rfl), fun q => absurd ((on_ne (by omega)).1 q) n4, fun q => absurd (J.c5 ((on_ne (by omega)).1 q)) n4, fun q => absurd (J.c6 ((on_ne (by omega)).1 q)) n4, fun q => absurd (J.c7 ((on_ne (by omega)).1 q)) n4, fun _ => ⟨hk.trans (kept_alloc _ _), fun q => absurd (on_same (by rw [J.size]; omega)) q, fun _ => ?_⟩, fun q => absurd ((on_ne (by omega)).1 q) n4⟩
      have := Blk.new w1 41 zeroIn.toArray
      rw [hsz] at this
      exact this
    · -- the append
      have f0 := hed _ rfl _ e40 rfl
      have f1 := hed _ rfl _ e41 rfl
      have f2 := hed _ rfl _ e42 rfl
      have f3 := hed _ rfl _ e43 rfl
      obtain ⟨hk, -, hzb⟩ := J.lo n0
      have hzb := hzb f3
      have z0 : a1.eval (.tmp 27) = v := S.eval 0 27 (by omega) rfl f0
      have z3 : a1.eval (.tmp 30) = .slice (some ⟨w.heap.size, 0, none⟩) 1 1 := S.eval 3 30 (by omega) rfl f3
      have hv1 := hv.kept (inlK N) hk
      refine op_list (o := o4) rfl ?_
      refine wpList_append_out (inlK N) q4 (.tmp 27) (.tmp 30) 30 p4 i0 _ 192 Try.underlying30 hi hz0 hz1 hz2 rfl (by omega) z0 hv1 w.heap.size zeroIn (.mk 0 [] [] [] [] [] [] [] [] []) z3 (fun j u hu => hzb.cell j u (by rw [List.getElem?_toArray]; exact hu)) rfl (zero_in _ _ _) (by unfold maxLen; omega) (by omega) (Nat.le_trans hbase hk.size) _ rfl ?_
      intro g2 cap2 w2 hout hgrow hat hlt
      have hon := Only.grown hgrow
      have hg2 : g2 ≠ I ∧ ∀ g', v.ownBlock ≠ some g' → g' < w.heap.size → g2 ≠ g' := by
        refine ⟨?_, fun g' hne hl => ?_⟩
        · rcases hat with q | q
          · intro e; exact hvI (by rw [q, e])
          · have := hI.lt; have := hk.size; omega
        · rcases hat with q | q
          · intro e; exact hne (by rw [q, e])
          · have := hk.size; omega
      have n6 : ¬ On L 6 := fun q => n0 (J.c6 q)
      have n7 : ¬ On L 7 := fun q => n0 (J.c7 q)
      show PuI _ _ _ _ _ _ _ _ _ _ _ _ _ _ _
      rw [d4]
      refine ⟨g2, cap2, by rw [Array.size_setIfInBounds]; exact J.size, S.put 4 (by omega) (by rw [J.size]; omega) (puD_inj 4) (puD_lt _ 4 hz) _ (fun _ => rfl) (fun j hj ho => ?_), fun _ j hj => on_mono ?_, fun q => absurd (J.c5 ((on_ne (by omega)).1 q)) n0, fun q => absurd (J.c6 ((on_ne (by omega)).1 q)) n0, fun q => absurd (J.c7 ((on_ne (by omega)).1 q)) n0, fun q => absurd (on_same (by rw [J.size]; omega)) q, fun _ => ?_⟩
      · refine puV_eq _ _ _ _ _ _ _ _ j ?_
        rcases Nat.lt_or_ge j 4 with q | q
        · exact q
        · exfalso
          obtain rfl | rfl | rfl | rfl : j = 4 ∨ j = 5 ∨ j = 6 ∨ j = 7 := by omega
          · exact n0 ho
          · exact n0 (J.c5 ho)
          · exact n6 ho
          · exact n7 ho
      · obtain rfl | rfl | rfl | rfl : j = 0 ∨ j = 1 ∨ j = 2 ∨ j = 3 := by omega
        · exact f0
        · exact f1
        · exact f2
        · exact f3
      · rw [if_neg (fun q => n6 ((on_ne (by omega)).1 q)), if_neg (fun q => n7 ((on_ne (by omega)).1 q))]
        have hO1 := hO.kept hk
        have hI1 := hI.kept hk
        refine ⟨hout, ?_, ?_, ?_, ?_, hg2.1⟩
        · show w2.heap[O]? = _
          rw [hon.block O hO1.lt (fun q => hvO q.symm)]; exact hO1
        · show w2.heap[I]? = _
          rw [hon.block I hI1.lt (fun q => hvI q.symm)]; exact hI1
        · have hy1 := (inlK N).sam hy (Sam.kept hk) (fun _ _ q => q)
          have hy2 : InlK N (fun g => g < w.heap.size ∧ A g ∧ v.ownBlock ≠ some g) w cells x := (inlK N).sam hy (fun _ _ _ => rfl) (fun g hg q => ⟨hg, q⟩)
          exact (inlK N).sam ((inlK N).sam hy2 (Sam.kept hk) (fun _ _ q => q)) (Sam.only hon (fun g _ q r => q.2.2 r.symm)) (fun g' _ q => ⟨q.2.1, hg2.2 g' q.2.2 q.1⟩)
        · refine (Only.of_kept hk).trans (hon.mono (fun i _ q => .inr (hv.blk i q.symm).1))
    · -- the new element's place
      have f4 := hed _ rfl _ e54 rfl
      have z4 := S.eval 4 31 (by omega) rfl f4
      have z2 := S.eval 2 29 (by omega) rfl (hed _ rfl _ e52 rfl)
      obtain ⟨hout, -⟩ := J.hi f4
      obtain ⟨_, _, hvv, hcap, hmax⟩ := hout.form
      refine step_value (o := o5) rfl q5 (v := .pointer (some ⟨g, xs.length * 10, none⟩)) (w' := w1) ?_ ?_
      · simp only [execOp, p5, z4, z2, puV]; simp [go_sem, Try.underlying30, Try.sizeIn]; intro hh; omega
      · rw [d5]; exact pu_quiet J hz 5 (by omega) (by omega) (by omega) (by omega) (by omega) (fun _ => f4)
    · -- the element is stored
      have f5 := hed _ rfl _ e65 rfl
      have f4 := J.c5 f5
      have z5 := S.eval 5 32 (by omega) rfl f5
      have z1 := S.eval 1 28 (by omega) rfl (hed _ rfl _ e61 rfl)
      obtain ⟨hout, hO1, hI1, hy1, hon, hgI⟩ := J.hi f4
      rw [if_neg n0] at hout
      have hgb := hout.blk g rfl
      refine op_list (o := o6) rfl ?_
      refine wpList_store_out (inlK N) q6 (.tmp 32) (.tmp 28) p6 hout xs.length (by simp) cells x z5 z1 hcl Try.sizeIn hy1 ?_
      intro w2 hout2 hon2
      rw [List.set_append_right _ _ (Nat.le_refl _), Nat.sub_self, List.set_cons_zero] at hout2
      show PuI _ _ _ _ _ _ _ _ _ _ _ _ _ _ _
      rw [d6]
      refine ⟨g, cap, by rw [Array.size_setIfInBounds]; exact J.size, S.put 6 (by omega) (by rw [J.size]; omega) (puD_inj 6) (puD_lt _ 6 hz) _ (fun q => by cases q) (fun _ _ _ => rfl), fun _ j hj => on_mono (J.c4 f4 j hj), fun _ => on_mono f4, fun _ => on_mono f4, fun _ => on_mono f4, fun q => absurd (on_mono f4) q, fun _ => ?_⟩
      rw [if_pos (on_same (by rw [J.size]; omega)), ifc (on_ne (by omega))]
      refine ⟨hout2, ?_, ?_, (inlK N).sam hy1 (Sam.only hon2 (fun g' _ q r => q.2 r.symm)) (fun _ _ q => q), hon.trans (hon2.mono (fun i _ q => .inr (by omega))), hgI⟩
      · show w2.heap[O]? = _
        rw [hon2.block O hO1.lt (by omega)]; exact hO1
      · show w2.heap[I]? = _
        rw [hon2.block I hI1.lt (fun q => hgI q.symm)]; exact hI1
    · -- the list is stored
      have f4 := hed _ rfl _ e74 rfl
      have z4 := S.eval 4 31 (by omega) rfl f4
      obtain ⟨hout, hO1, hI1, hy1, hon, hgI⟩ := J.hi f4
      rw [if_neg n0] at hO1
      have hgb := hout.blk g rfl
      have t := hO1.cell 0 _ rfl
      have fr := hO1.free 0
      have on2 := Only.setCell (w := w1) O 0 (.slice (some ⟨g, 0, none⟩) (xs.length + 1) cap)
      refine step_skip (o := o7) rfl q7 (w' := w1.setCell ⟨O, 0, none⟩ (.slice (some ⟨g, 0, none⟩) (xs.length + 1) cap)) ?_ ?_
      · simp only [execOp, p7, sx1, z4, puV]; simp [go_sem, t, fr, Try.underlying30]
      · rw [d7]
        refine ⟨g, cap, by rw [Array.size_setIfInBounds]; exact J.size, S.put 7 (by omega) (by rw [J.size]; omega) (puD_inj 7) (puD_lt _ 7 hz) _ (fun q => by cases q) (fun _ _ _ => rfl), fun _ j hj => on_mono (J.c4 f4 j hj), fun _ => on_mono f4, fun _ => on_mono f4, fun _ => on_mono f4, fun q => absurd (on_mono f4) q, fun _ => ?_⟩
        rw [ifc (on_ne (by omega)), if_pos (on_same (by rw [J.size]; omega))]
        refine ⟨hout.only (inlK N) on2 (fun g' _ q _ r => hAO g' q r) (fun g' q r => by have e : g = g' := (by simpa [Value.ownBlock] using q); omega), hO1.set 0 _, ?_, (inlK N).sam hy1 (Sam.only on2 (fun g' _ q r => hAO g' q.1 r)) (fun _ _ q => q), hon.trans (on2.mono (fun i _ q => .inl q)), hgI⟩
        show (w1.setCell _ _).heap[I]? = _
        rw [on2.block I hI1.lt (fun q => hOI q.symm)]; exact hI1
end Go.Proofs.Ythbnahagfojfbaa

/- gloss.hasReference and linkTo. Conditions: lengths. -/
set_option linter.all false
namespace Go.Proofs.Ythbnahagfojfbaa
open Go.RowKit

def refK (k : Int) : Bool := k == 9 || k == 16 || k == 12 || k == 14 || k == 13
mutual
def hasRef1 : Inl → Bool
  | .mk kind _ _ _ _ _ _ _ _ kids => refK kind || hasRefL kids
/-- A reference is among inlines. -/
def hasRefL : List Inl → Bool
  | [] => false
  | x :: xs => hasRef1 x || hasRefL xs
end
theorem hasRef1_eq (x : Inl) : hasRef1 x = (refK x.kind || hasRefL x.kids) := by cases x; rfl
theorem hasRefL_app (xs ys : List Inl) : hasRefL (xs ++ ys) = (hasRefL xs || hasRefL ys) := by
  induction xs with
  | nil => rfl
  | cons x xs ih => show (hasRef1 x || hasRefL (xs ++ ys)) = ((hasRef1 x || hasRefL xs) || hasRefL ys); rw [ih, Bool.or_assoc]
theorem hasRefL_take {xs : List Inl} {k : Nat} {x : Inl} (h : xs[k]? = some x) : hasRefL (xs.take (k + 1)) = (hasRefL (xs.take k) || (refK x.kind || hasRefL x.kids)) := by
  rw [take_snoc h, hasRefL_app, ← hasRef1_eq]; show _ = _; cases hasRefL (xs.take k) <;> simp [hasRefL]
theorem hasRefL_at {xs : List Inl} {x : Inl} (h : x ∈ xs) (hr : (refK x.kind || hasRefL x.kids) = true) : hasRefL xs = true := by
  induction xs with
  | nil => cases h
  | cons y ys ih =>
    show (hasRef1 y || hasRefL ys) = true
    rcases List.mem_cons.1 h with rfl | h
    · rw [hasRef1_eq, hr]; rfl
    · rw [ih h]; cases hasRef1 y <;> rfl
def RefP (b : Bool) (w : World) (e : Ending) (w' : World) : Prop := e = .returned (.bool b) ∧ Kept w w'
set_option maxRecDepth 100000 in
set_option maxHeartbeats 12800000 in
theorem hasref_any (S : Nat → Prop) : ∀ (n : Nat) (xs : List Inl) (v : Value) (w : World), Lns S n w v xs → xs.length ≤ 1000000 → okIL xs →
    Calls Try.prog 73 #[v] w (RefP (hasRefL xs) w) := by
  intro n
  induction n with
  | zero =>
    intro xs v w hv hl hok
    obtain rfl := hv.no
    obtain ⟨a, c, rfl, hc⟩ := hv.form
    have HFIN : RefP (hasRefL []) w (.returned (.bool false)) w := ⟨rfl, Kept.refl w⟩
    clear hv hok
    go_enter Try.func73, Try.ntmps73
    go_wp2_with fail
    go_loopw [7] (fun i wr => i = .int .i64 0 ∧ w = wr) (fun i _ => 1)
    case atStart => exact ⟨rfl, rfl⟩
    case round =>
      obtain ⟨rfl, rfl⟩ := hrel
      go_wp2_with fail
      (try go_ret)
      exact HFIN
  | succ n ih =>
    intro xs v w hv hl hok
    have HV := Lib.hid hv
    have HOK := Lib.hid hok
    have HAT := Lib.hid (fun (x : Inl) h => hasRefL_at (xs := xs) (x := x) h)
    have HTK := Lib.hid (fun (k : Nat) (x : Inl) h => hasRefL_take (xs := xs) (k := k) (x := x) h)
    have HFT : Hid (hasRefL xs = true → ∀ w', Kept w w' → RefP (hasRefL xs) w (.returned (.bool true)) w') := fun h w' hk => by rw [h]; exact ⟨rfl, hk⟩
    have HFF : Hid (hasRefL (xs.take xs.length) = false → ∀ w', Kept w w' → RefP (hasRefL xs) w (.returned (.bool false)) w') := fun h w' hk => by rw [List.take_length] at h; rw [h]; exact ⟨rfl, hk⟩
    have HIH := Lib.hid ih
    unfold RefP at HIH
    obtain ⟨a, c, rfl, hc⟩ := hv.form
    generalize hP : RefP (hasRefL xs) w = P at *
    clear hP hv hok ih
    go_enter Try.func73, Try.ntmps73
    go_wp2_with fail
    go_loopw [7] (fun i wr => ∃ (k : Nat), k ≤ xs.length ∧ i = .int .i64 k ∧ Hid (hasRefL (xs.take k) = false) ∧ Hid (Kept w wr)) (fun i _ => xs.length - (intOf i).toNat)
    case atStart => exact ⟨0, Nat.zero_le _, rfl, Lib.hid rfl, Kept.refl w⟩
    case round =>
      obtain ⟨k, hk, rfl, HN, HKR⟩ := hrel
      by_cases hlt : k < xs.length
      · obtain ⟨x, hx⟩ : ∃ x, xs[k]? = some x := ⟨_, List.getElem?_eq_getElem hlt⟩
        have HVR := Lib.hid (HV.out.kept HKR.out)
        have hfit := (okIL_at HOK.out x (List.mem_of_getElem? hx)).fit
        have HA := Lib.hid (HAT.out x (List.mem_of_getElem? hx))
        have HT := Lib.hid (HTK.out k x hx)
        obtain ⟨g, o, vC, vP, vA, vT, vK, rfl, hgg, hgS, -, -, ⟨d0, d1, d2, d3, d4, d5, d6, d7, d8, d9⟩, -, ⟨hC, -⟩, ⟨hPP, -⟩, ⟨hA, -⟩, hTT, hK⟩ := Lns.at_ HVR.out k x hx
        obtain ⟨kind, text, dest, title, id, cls, prs, args, cits, kids⟩ := x
        simp only [Inl.kind, Inl.text, Inl.dest, Inl.title, Inl.id, Inl.cls, Inl.prs, Inl.args, Inl.cits, Inl.kids] at d0 d1 d2 d3 d4 hC hPP hA hTT hK hfit HA HT
        obtain ⟨⟨f1, f2, f3, f4, f5, f6, f7, f8, f9⟩, f10⟩ := hfit
        obtain ⟨aC, cC, rfl, lC⟩ := hC.shape
        obtain ⟨aP, cP, rfl, lP⟩ := hPP.shape
        obtain ⟨aA, cA, rfl, lA⟩ := hA.shape
        obtain ⟨aT, cT, rfl, lT⟩ := hTT.form
        obtain ⟨aK, cK, rfl, lK⟩ := hK.form
        have HB0 := Lib.hid (Blk.new wr 41 #[.int .i64 kind, .string (bs text), .string (bs dest), .string (bs title), .string (bs id), .slice aC cls.length cC, .slice aP prs.length cP, .slice aA args.length cA, .slice aT cits.length cT, .slice aK kids.length cK])
        have HKI := Lib.hid (kept_alloc wr (.cells #[.int .i64 kind, .string (bs text), .string (bs dest), .string (bs title), .string (bs id), .slice aC cls.length cC, .slice aP prs.length cP, .slice aA args.length cA, .slice aT cits.length cT, .slice aK kids.length cK] 41))
        have HKW := Lib.hid (HKR.out.trans HKI.out)
        have HCALL := Lib.hid (HIH.out kids (.slice aK kids.length cK) (wr.alloc (.cells #[.int .i64 kind, .string (bs text), .string (bs dest), .string (bs title), .string (bs id), .slice aC cls.length cC, .slice aP prs.length cP, .slice aA args.length cA, .slice aT cits.length cT, .slice aK kids.length cK] 41)) (hK.kept HKI.out) f9 f10)
        have HFTA : Hid (refK kind = true → ∀ w', Kept w w' → P (.returned (.bool true)) w') := fun h => HFT.out (HA.out (by rw [h]; rfl))
        have HFTB : Hid (hasRefL kids = true → ∀ w', Kept w w' → P (.returned (.bool true)) w') := fun h => HFT.out (HA.out (by rw [h]; cases refK kind <;> rfl))
        clear hC hPP hA hTT hK f10 hx HVR HTK HAT HA HFF HFT HIH
        obtain ⟨I, HI⟩ : ∃ I, Hid (wr.heap.size = I) := ⟨_, rfl⟩
        by_cases h9 : kind = 9
        · subst h9
          have HF := Lib.hid (HFTA.out rfl _ HKW.out)
          clear HFTA HFTB HT HCALL 
          go_wp2_with fail
          (try go_ret)
          exact HF.out
        by_cases h16 : kind = 16
        · subst h16
          have HF := Lib.hid (HFTA.out rfl _ HKW.out)
          clear HFTA HFTB HT HCALL h9
          go_wp2_with fail
          (try go_ret)
          exact HF.out
        by_cases h12 : kind = 12
        · subst h12
          have HF := Lib.hid (HFTA.out rfl _ HKW.out)
          clear HFTA HFTB HT HCALL h9 h16
          go_wp2_with fail
          (try go_ret)
          exact HF.out
        by_cases h14 : kind = 14
        · subst h14
          have HF := Lib.hid (HFTA.out rfl _ HKW.out)
          clear HFTA HFTB HT HCALL h9 h16 h12
          go_wp2_with fail
          (try go_ret)
          exact HF.out
        by_cases h13 : kind = 13
        · subst h13
          have HF := Lib.hid (HFTA.out rfl _ HKW.out)
          clear HFTA HFTB HT HCALL h9 h16 h12 h14
          go_wp2_with fail
          (try go_ret)
          exact HF.out
        have q9 : (kind == 9) = false := by simpa using h9
        have q16 : (kind == 16) = false := by simpa using h16
        have q12 : (kind == 12) = false := by simpa using h12
        have q14 : (kind == 14) = false := by simpa using h14
        have q13 : (kind == 13) = false := by simpa using h13
        have hrk : refK kind = false := by unfold refK; rw [q9, q16, q12, q14, q13]; rfl
        rw [hrk, Bool.false_or] at HT
        clear hrk HFTA h9 h16 h12 h14 h13
        go_wp2_with fail
        generalize wr.alloc _ = w1 at *
        refine HCALL.out.mono ?_
        rintro e w2 ⟨rfl, hk2⟩
        have HK2 := Lib.hid (HKW.out.trans hk2)
        cases hr : hasRefL kids with
        | true =>
          have HF := Lib.hid (HFTB.out hr w2 HK2.out)
          clear HFTB HT hk2 hr HCALL HB0 HKI HKW
          go_wp2_with fail
          (try go_ret)
          exact HF.out
        | false =>
          have HN2 : Hid (hasRefL (xs.take (k + 1)) = false) := by show _ = _; rw [HT.out, HN.out, hr]; rfl
          clear HFTB HT hk2 hr HCALL HB0 HKI HKW HN
          go_wp2_with fail
          go_roundw
          case rel => exact ⟨k + 1, by omega, by go_num, HN2.out, HK2.out⟩
          case measure => simp [intOf]; omega
      · obtain rfl : k = xs.length := by omega
        have HF := Lib.hid (HFF.out HN.out wr HKR.out)
        clear HFF HFT HTK HAT HIH HV HOK
        go_wp2_with fail
        (try go_ret)
        exact HF.out
/-- A text as an inline, a link. -/
def textI (s : Bs) : Inl := .mk 1 s [] [] [] [] [] [] [] []
def linkI (id name : Bs) (kids : List Inl) : Inl := .mk 9 [] (35 :: id) [] [] [] [] [] [] (match kids with | [] => [textI name] | _ => kids)
end Go.Proofs.Ythbnahagfojfbaa
