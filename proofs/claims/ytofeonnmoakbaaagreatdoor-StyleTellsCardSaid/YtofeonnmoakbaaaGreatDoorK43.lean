/- light, contains and num of law31. Conditions: lengths. -/
import Derived.Test.YtofeonnmoakbaaaGreatDoorK33
import Derived.Test.YtofeonnmoakbaaaGreatDoorK30
import Derived.Test.YtofeonnmoakbaaaGreatDoorK41
import Derived.BigQuiet

set_option linter.all false
namespace Go.Proofs.YtofeonnmoakbaaaGreatDoor
open Go.RowKit

def sumK (ps : List Pr) : Nat := (ps.map fun p => p.1.length + p.2.length).sum
theorem sumK_next (ps : List Pr) (k : Nat) (hk : k < ps.length) : sumK (ps.take (k + 1)) = sumK (ps.take k) + (ps[k].1.length + ps[k].2.length) := by
  unfold sumK
  rw [List.take_succ_eq_append_getElem hk, List.map_append, List.sum_append]; simp
def totY (y : StyT) : Nat := y.name.length + y.sort.length + y.cite.length + y.bare.length + y.between.length + y.begin_.length + y.end_.length
def LightY (y : StyT) : Prop := y.entries.length ≤ 140 ∧ totY y ≤ 800 ∧ (∀ p ∈ y.entries, p.1.length ≤ 300 ∧ p.2.length ≤ 300) ∧ sumK y.entries ≤ 1500
theorem LightY.small {y : StyT} (h : LightY y) : SmallY y := by
  obtain ⟨h1, h2, h3, h4⟩ := h
  unfold totY at h2
  exact ⟨by omega, by omega, by omega, by omega, by omega, by omega, by omega, by omega, fun p hp => by have := h3 p hp; omega⟩
def LightP (y : StyT) (w : World) (e : Ending) (w' : World) : Prop := ∃ b, e = .returned (.bool b) ∧ (b = true → LightY y) ∧ Kept w w'
set_option maxRecDepth 100000 in
set_option maxHeartbeats 6400000 in
theorem slight_any (vE : Value) (y : StyT) (w : World) (hv : Prs w vE y.entries) (hf : FitY y) : Calls Tryz.prog 9 #[styV vE y] w (LightP y w) := by
  obtain ⟨f1, f2, f3, f4, f5, f6, f7, -, f9, f10⟩ := hf
  have HV := Lib.hid hv
  obtain ⟨aE, cE, rfl, lE⟩ := hv.form
  have HNO : Hid (∀ w', Kept w w' → LightP y w (.returned (.bool false)) w') := fun w' h => ⟨false, rfl, (fun q => by cases q), h⟩
  have HYES : Hid (y.entries.length ≤ 140 → totY y ≤ 800 → (∀ j (hj : j < y.entries.length), j < y.entries.length → y.entries[j].1.length ≤ 300 ∧ y.entries[j].2.length ≤ 300) → sumK (y.entries.take y.entries.length) ≤ 1500 → ∀ w', Kept w w' → LightP y w (.returned (.bool true)) w') := fun h1 h2 h3 h4 w' h => ⟨true, rfl, (fun _ => ⟨h1, h2, (fun p hp => by
    obtain ⟨j, hj, e⟩ := List.getElem_of_mem hp
    rw [← e]; exact h3 j hj hj), by rwa [List.take_of_length_le (Nat.le_refl _)] at h4⟩), h⟩
  have HTY : Hid (totY y = y.name.length + y.sort.length + y.cite.length + y.bare.length + y.between.length + y.begin_.length + y.end_.length) := rfl
  have HSN := Lib.hid (sumK_next y.entries)
  have HS0 : Hid (sumK (y.entries.take 0) = 0) := rfl
  have HFE := Lib.hid f10
  have HK0 := Lib.hid (kept_alloc w (.cells (styCells (.slice aE y.entries.length cE) y) 24))
  have HB0 := Lib.hid (Blk.new w 24 (styCells (.slice aE y.entries.length cE) y))
  generalize hLP : LightP y w = P at *
  generalize totY y = tot at *
  clear hv f10 hLP
  unfold styV
  unfold styCells at *
  by_cases h1 : 140 < y.entries.length
  · go_enter Tryz.func9, Tryz.ntmps9
    go_wp2_with fail
    exact HNO.out _ HK0.out
  have hlen : y.entries.length ≤ 140 := by omega
  by_cases h2 : 800 < y.name.length + y.sort.length + y.cite.length + y.bare.length + y.between.length + y.begin_.length + y.end_.length
  · have h2' : (800 : Int) < (y.name.length : Int) + y.sort.length + y.cite.length + y.bare.length + y.between.length + y.begin_.length + y.end_.length := by omega
    go_enter Tryz.func9, Tryz.ntmps9
    go_wp2_with fail
    exact HNO.out _ HK0.out
  have h2' : ¬ (800 : Int) < (y.name.length : Int) + y.sort.length + y.cite.length + y.bare.length + y.between.length + y.begin_.length + y.end_.length := by omega
  have HTOT : Hid (tot ≤ 800) := by show _ ≤ _; rw [HTY.out]; omega
  go_enter Tryz.func9, Tryz.ntmps9
  go_wp2_with fail
  generalize w.alloc _ = w0 at *
  obtain ⟨B, HBB⟩ : ∃ B, Hid (w.heap.size = B) := ⟨_, rfl⟩
  rw [HBB.out] at HB0 ⊢
  clear h1 h2 h2' f1 f2 f3 f4 f5 f6 f7 f9 HTY HBB
  go_loopw [3, 4] (fun s i wr => ∃ k : Nat, k ≤ y.entries.length ∧ i = .int .i64 k ∧ s = .int .i64 (sumK (y.entries.take k)) ∧ Hid (sumK (y.entries.take k) ≤ 600 * k) ∧ Hid (∀ j (hj : j < y.entries.length), j < k → y.entries[j].1.length ≤ 300 ∧ y.entries[j].2.length ≤ 300) ∧ Hid (Kept w0 wr)) (fun _ i _ => y.entries.length - (intOf i).toNat)
  case atStart => exact ⟨0, Nat.zero_le _, rfl, by rw [HS0.out]; rfl, by show _ ≤ _; rw [HS0.out]; omega, fun j hj h => by omega, Kept.refl _⟩
  case round =>
    obtain ⟨k, hk, rfl, rfl, HSL, HN, HKR⟩ := hrel
    have b1 : wr.cell? ⟨B, 9, none⟩ = some (.slice aE y.entries.length cE) := (HB0.out.kept HKR.out).cell 9 _ rfl
    have z1 := (HB0.out.kept HKR.out).lt
    have hsl := HSL.out
    by_cases hlt : k < y.entries.length
    · have hx := List.getElem?_eq_getElem hlt
      obtain ⟨g, o, rfl, hg, d0, d1, -, -⟩ := (HV.out.kept (HK0.out.trans HKR.out)).cell_of k _ hx
      have HSK := Lib.hid (HSN.out k hlt)
      obtain ⟨e1, e2⟩ := HFE.out _ (List.getElem_mem hlt)
      have HNX : Hid (y.entries[k].1.length ≤ 300 → y.entries[k].2.length ≤ 300 → ∀ j (hj : j < y.entries.length), j < k + 1 → y.entries[j].1.length ≤ 300 ∧ y.entries[j].2.length ≤ 300) := fun h1 h2 j hj hjk => by
        rcases Nat.lt_or_ge j k with q | q
        · exact HN.out j hj q
        · obtain rfl : j = k := by omega
          exact ⟨h1, h2⟩
      clear hx HN HSL
      generalize y.entries[k] = p at *
      obtain ⟨x, z⟩ := p
      simp only at d0 d1 HSK HNX e1 e2
      generalize sumK (y.entries.take k) = s0 at *
      by_cases h1 : 300 < x.length
      · go_wp2_with fail
        exact HNO.out _ (HK0.out.trans HKR.out)
      by_cases h2 : 300 < z.length
      · go_wp2_with fail
        exact HNO.out _ (HK0.out.trans HKR.out)
      have HNN := Lib.hid (HNX.out (by omega) (by omega))
      clear HNX
      go_wp2_with fail
      go_quiet (fail)
      all_goals
        have HKZ := Lib.hid (HKR.out.trans (kept_drewN wr nq))
        go_wp2_with fail
        go_roundw
        case rel => exact ⟨k + 1, by omega, by go_num, by rw [HSK.out]; go_num, by show _ ≤ _; rw [HSK.out]; omega, HNN.out, HKZ.out⟩
        case measure => simp [intOf]; omega
    · obtain rfl : k = y.entries.length := by omega
      have HY1 := Lib.hid (fun h => HYES.out hlen HTOT.out HN.out h)
      generalize sumK (y.entries.take y.entries.length) = s0 at *
      by_cases h3 : s0 ≤ 1500
      · have hd : decide ((s0 : Int) ≤ 1500) = true := decide_eq_true (by omega)
        have HFIN : Hid (P (.returned (.bool (decide ((s0 : Int) ≤ 1500)))) wr) := by
          show P _ _
          rw [hd]; exact HY1.out h3 wr (HK0.out.trans HKR.out)
        clear hd
        go_wp2_with fail
        exact HFIN.out
      · have hd : decide ((s0 : Int) ≤ 1500) = false := decide_eq_false (by omega)
        have HFIN : Hid (P (.returned (.bool (decide ((s0 : Int) ≤ 1500)))) wr) := by
          show P _ _
          rw [hd]; exact HNO.out _ (HK0.out.trans HKR.out)
        clear hd
        go_wp2_with fail
        exact HFIN.out
/-- Does t stand in s? -/
def InT (s t : Bs) : Prop := ∃ i, i + t.length ≤ s.length ∧ (s.drop i).take t.length = t
set_option maxRecDepth 100000 in
set_option maxHeartbeats 1600000 in
theorem scontains_any (s t : Bs) (w : World) (hs : s.length ≤ 1000000000000000) (ht : t.length ≤ 1000000000000000) (hi : InT s t) : Calls Tryz.prog 21 #[.string (bs s), .string (bs t)] w fun e w' => e = .returned (.bool true) ∧ Kept w w' := by
  have HI := Lib.hid hi
  clear hi
  go_enter Tryz.func21, Tryz.ntmps21
  go_wp2_with fail
  go_loop [5] (fun i => ∃ k : Nat, k ≤ s.length ∧ i = .int .i64 k ∧ Hid (∀ j, j < k → ¬ (j + t.length ≤ s.length ∧ (s.drop j).take t.length = t))) (fun i => s.length + 1 - (intOf i).toNat)
  case atStart => exact ⟨0, Nat.zero_le _, rfl, fun j h => by omega⟩
  case round =>
    obtain ⟨k, hk, rfl, HN⟩ := hrel
    by_cases hlt : k + t.length ≤ s.length
    · have hlti : (k : Int) + t.length ≤ s.length := by omega
      have i1 := run_sub (P := Tryz.prog) (t := 9) Tryz.underlying9 s k (k + t.length) (by omega) (by omega) k ((k : Int) + t.length) rfl (by omega) _ rfl
      rw [Nat.add_sub_cancel_left] at i1
      have HNX : Hid ((s.drop k).take t.length ≠ t → ∀ j, j < k + 1 → ¬ (j + t.length ≤ s.length ∧ (s.drop j).take t.length = t)) := fun h j hj q => by
        rcases Nat.lt_or_ge j k with z | z
        · exact HN.out j z q
        · obtain rfl : j = k := by omega
          exact h q.2
      have HLS : Hid (k < s.length ∨ t = []) := by
        show _ ∨ _
        rcases Nat.lt_or_ge k s.length with z | z
        · exact .inl z
        · right; exact List.length_eq_zero_iff.1 (by omega)
      generalize hX : (s.drop k).take t.length = X at *
      cases hxt : (X == t) with
      | true =>
        clear hX HNX HN
        go_wp2_with fail
        go_ret
        exact ⟨rfl, Kept.refl _⟩
      | false =>
        have hne := beq_eq_false_iff_ne.1 hxt
        have HS := Lib.hid (HNX.out hne)
        have hks : k < s.length := by
          rcases HLS.out with z | z
          · exact z
          · subst z; exact absurd hX.symm (by simpa using hne)
        clear hX HNX HN hne
        go_wp2_with fail
        go_round
        case rel => exact ⟨k + 1, by omega, by go_num, HS.out⟩
        case measure => simp [intOf]; omega
    · exfalso
      obtain ⟨j, h1, h2⟩ := HI.out
      exact HN.out j (by omega) ⟨h1, h2⟩
theorem dec_split (N n : Nat) (s : Bs) (h : Lib.decDigits N = (if n < 10 then [] else Lib.decDigits (n / 10)) ++ s) (hn : ¬ n < 10) : Lib.decDigits N = (if n / 10 < 10 then [] else Lib.decDigits (n / 10 / 10)) ++ (UInt8.ofNat (48 + n / 10 % 10) :: s) := by
  rw [h, if_neg hn]
  by_cases q : n / 10 < 10
  · rw [if_pos q, Lib.decDigits_one q, Nat.mod_eq_of_lt q]; rfl
  · rw [if_neg q, decDigits_ten _ q, List.append_assoc]; rfl
set_option maxRecDepth 100000 in
set_option maxHeartbeats 1600000 in
theorem snum31_any (N : Nat) (w : World) (hN : N ≤ 9223372036854775807) : Calls Tryz.prog 22 #[.int .i64 N] w fun e w' => e = .returned (.string (bs (Lib.decDigits N))) ∧ Kept w w' := by
  have hlen : (Lib.decDigits N).length ≤ 21 := by
    have := itoa_len (N : Int) (by omega) (by omega)
    rw [itoa_nat] at this; exact this
  have HSP := Lib.hid (fun n s h hn => dec_split N n s h hn)
  have H0 : Hid (Lib.decDigits N = (if N < 10 then [] else Lib.decDigits (N / 10)) ++ [UInt8.ofNat (48 + N % 10)]) := by
    show _ = _
    by_cases q : N < 10
    · rw [if_pos q, Lib.decDigits_one q, Nat.mod_eq_of_lt q]; rfl
    · rw [if_neg q, decDigits_ten _ q]
  have sub : ∀ n : Nat, ∀ w, (Instr.slice 9 (.string (bs tenL)) (some (.int .i64 ((n % 10 : Nat) : Int))) (some (.int .i64 (((n % 10 : Nat) : Int) + 1))) none).run Tryz.prog w = .ok (.string (bs [UInt8.ofNat (48 + n % 10)])) w := fun n w => run_sub (P := Tryz.prog) (t := 9) Tryz.underlying9 tenL (n % 10) (n % 10 + 1) (by omega) (by show _ ≤ 10; omega) ((n % 10 : Nat) : Int) (((n % 10 : Nat) : Int) + 1) rfl (by omega) _ (ten_at (n % 10) (Nat.mod_lt _ (by decide))) w
  have HSUB := Lib.hid sub
  generalize Lib.decDigits N = T at *
  have i1 := sub N
  unfold tenL at i1
  have r1 : Int.tmod (N : Int) 10 = ((N % 10 : Nat) : Int) := (Int.ofNat_tmod N 10).symm
  have hr : N % 10 < 10 := Nat.mod_lt _ (by decide)
  clear sub
  generalize N % 10 = r at *
  generalize UInt8.ofNat (48 + r) = d at *
  go_enter Tryz.func22, Tryz.ntmps22
  go_wp2_with fail
  go_loop [0, 3] (fun a b => ∃ (n : Nat) (s : Bs), a = .int .i64 n ∧ b = .string (bs s) ∧ n ≤ N ∧ Hid (T = (if n < 10 then [] else Lib.decDigits (n / 10)) ++ s)) (fun a _ => (intOf a).toNat)
  case atStart => exact ⟨N, [d], rfl, rfl, Nat.le_refl _, H0.out⟩
  case round =>
    clear i1 r1 hr H0
    obtain ⟨n, s, rfl, rfl, hn, HS⟩ := hrel
    by_cases h10 : n < 10
    · have hg : ¬ (10 : Int) ≤ (n : Int) := by omega
      have HR : Hid (T = s) := by have := HS.out; rw [if_pos h10] at this; exact this
      clear HS
      go_wp2_with fail
      go_ret
      exact ⟨ret_bs HR.out.symm, Kept.refl _⟩
    · have hg : (10 : Int) ≤ (n : Int) := by omega
      have HNX := Lib.hid (HSP.out n s HS.out h10)
      have hsl : s.length ≤ 21 := by have := congrArg List.length HS.out; rw [List.length_append] at this; omega
      have r2 : Int.tdiv (n : Int) 10 = ((n / 10 : Nat) : Int) := (Int.ofNat_tdiv n 10).symm
      have r1 : Int.tmod ((n / 10 : Nat) : Int) 10 = ((n / 10 % 10 : Nat) : Int) := (Int.ofNat_tmod (n / 10) 10).symm
      have hr : n / 10 % 10 < 10 := Nat.mod_lt _ (by decide)
      have i1 := HSUB.out (n / 10)
      unfold tenL at i1
      obtain ⟨ad, -⟩ := add_bs31 (P := Tryz.prog) [UInt8.ofNat (48 + n / 10 % 10)] s _ 1 21 rfl (by simp) hsl (by decide)
      have hlt : n / 10 < n := by omega
      clear HS
      generalize n / 10 % 10 = r at *
      generalize n / 10 = m at *
      generalize UInt8.ofNat (48 + r) = d at *
      go_wp2_with fail
      go_round
      case rel => exact ⟨m, d :: s, rfl, rfl, by omega, HNX.out⟩
      case measure => simp [intOf]; omega
end Go.Proofs.YtofeonnmoakbaaaGreatDoor

/- The law StyleTells: the citation has its suffix, or its number. No condition. -/
set_option linter.all false
namespace Go.Proofs.YtofeonnmoakbaaaGreatDoor
open Go.RowKit

theorem in_mid (A t B : Bs) : InT (A ++ (t ++ B)) t := by
  refine ⟨A.length, by rw [List.length_append, List.length_append]; omega, ?_⟩
  rw [List.drop_left, List.take_left]
theorem in_nil (s : Bs) : InT s [] := ⟨0, by simp, rfl⟩
theorem fill_in (ps : List Pc) (val : Bs → Bs) (key : Bs) (h : freeB ps key = true) : InT (fillB ps val) (val key) := by
  by_cases h0 : val key = []
  · rw [h0]; exact in_nil _
  unfold freeB at h
  rw [List.any_eq_true] at h
  obtain ⟨p, hp, h1⟩ := h
  rw [Bool.and_eq_true, Bool.and_eq_true, Bool.not_eq_true', beq_iff_eq] at h1
  obtain ⟨hf, ht, ho⟩ := h1
  have hd : (dropG ps val).contains (p.grp : Int) = false := by
    rw [Bool.eq_false_iff]
    intro q
    rw [List.contains_iff_mem] at q
    unfold dropG at q
    rw [List.mem_map] at q
    obtain ⟨p2, hp2, e⟩ := q
    rw [List.mem_filter] at hp2
    obtain ⟨hm, hc⟩ := hp2
    rw [Bool.and_eq_true, Bool.and_eq_true, beq_iff_eq] at hc
    obtain ⟨c1, c2, c3⟩ := hc
    rw [Bool.eq_false_iff] at ho
    refine ho ?_
    rw [List.contains_iff_mem]
    unfold othG
    rw [List.mem_map]
    refine ⟨p2, ?_, e⟩
    rw [List.mem_filter]
    refine ⟨hm, ?_⟩
    have : (p2.txt == key) = false := by
      rw [beq_eq_false_iff_ne]
      intro q
      rw [q] at c3; exact h0 c3
    rw [c1, this, c2]; rfl
  have hv : fillP val (dropG ps val) p = val key := by
    unfold fillP
    rw [hd, if_neg (by simp), if_pos hf, ht]
  obtain ⟨l1, l2, e⟩ := List.append_of_mem hp
  have : fillB ps val = (l1.flatMap (fillP val (dropG ps val))) ++ (val key ++ l2.flatMap (fillP val (dropG ps val))) := by
    show ps.flatMap (fillP val (dropG ps val)) = _
    generalize dropG ps val = D at hv ⊢
    rw [e, List.flatMap_append, List.flatMap_cons, hv]
  rw [this]
  exact in_mid _ _ _
theorem sty_free {y : StyT} (h : styE y = 0) : splE y.cite = 0 ∧ freeB (splL y.cite) (if y.numeric = true then kNumber else kSuffix) = true := by
  have hc : citE y = 0 := by
    unfold styE at h
    split at h
    · cases h
    · split at h
      · cases h
      · split at h
        · rename_i q; exact absurd h q
        · split at h
          · rename_i q; exact absurd h q
          · rename_i q; exact Decidable.not_not.1 q
  unfold citE at hc
  split at hc
  · rename_i q; exact absurd hc q
  · rename_i q
    refine ⟨Decidable.not_not.1 q, ?_⟩
    cases hfb : freeB (splL y.cite) (if y.numeric = true then kNumber else kSuffix) with
    | true => rfl
    | false => rw [hfb, if_pos rfl] at hc; cases hc
theorem tell_in (c : FilT) {y : StyT} (h : styE y = 0) : InT (fillS c y.cite) (valS c (if y.numeric = true then kNumber else kSuffix)) := fill_in _ _ _ (sty_free h).2
theorem fillS_len (c : FilT) (t : Bs) (h : FitV c) (ht : t.length ≤ 100000) : (fillS c t).length ≤ 1000000000000000 := by
  have h1 := fill_len (splL t) (fillP (valS c) (dropG (splL t) (valS c))) 20000000 (fun p hp => by
    unfold fillP
    split
    · simp
    · split
      · exact val_len c h _
      · have := (splL_pcs p hp).2.1; omega)
  have h2 := splL_len t
  have h3 : (splL t).length * 20000000 ≤ 100000 * 20000000 := Nat.mul_le_mul_right _ (by omega)
  unfold fillS fillB
  omega
def mostC (c : FilT) (m : Int) : FilT := { c with most := m }
set_option maxRecDepth 100000 in
set_option maxHeartbeats 12800000 in
theorem lstell_any (y : StyT) (vY : Value) (c : FilT) (vA vE vF : Value) (w : World) (hg : Gnd w) (hT : TabW w) (hY : Prs w vY y.entries) (hfy : FitY y) (hA : Perss w vA c.author) (hE : Perss w vE c.editor) (hF : Prs w vF c.fields) (hf : FitC9 c) :
    Calls Tryz.prog 7 #[styV vY y, caseV c vA vE vF] w fun e w' => e = .returned (.bool true) ∧ Kept w w' := by
  have HG := Lib.hid hg
  have HT := Lib.hid hT
  have HAW := Lib.hid (fun w h1 h2 => sawake_any w h1 h2)
  have HLI := Lib.hid (fun w h => slight_any vY y w h hfy)
  unfold LightP at HLI
  have HSH := Lib.hid (fun w h1 h2 h3 => sshort_any c vA vE vF w h1 h2 h3 hf.1)
  unfold ShortP at HSH
  have HFC : Hid (FitC9 (mostC c y.most)) := ⟨hf.1, hf.2.1, hf.2.2.1, hf.2.2.2.1, hfy.2.2.2.2.2.2.2.1⟩
  obtain ⟨-, fl, fs, fn, fm⟩ := hf
  have HYO : Hid (vY.oneCell' = true) := by
    obtain ⟨a, k, e, _⟩ := hY.form
    show _ = _; rw [e]; rfl
  have HY := Lib.hid hY
  have HA := Lib.hid hA
  have HE := Lib.hid hE
  have HF := Lib.hid hF
  have HS0 := Lib.hid (Blk.new w 24 #[.string (bs y.name), .bool y.numeric, .string (bs y.sort), .string (bs y.cite), .string (bs y.bare), .string (bs y.between), .string (bs y.begin_), .string (bs y.end_), .int .i64 y.most, vY])
  have HK0 := Lib.hid (kept_alloc w (.cells #[.string (bs y.name), .bool y.numeric, .string (bs y.sort), .string (bs y.cite), .string (bs y.bare), .string (bs y.between), .string (bs y.begin_), .string (bs y.end_), .int .i64 y.most, vY] 24))
  have HS1 := Lib.hid (Blk.new (w.alloc (.cells #[.string (bs y.name), .bool y.numeric, .string (bs y.sort), .string (bs y.cite), .string (bs y.bare), .string (bs y.between), .string (bs y.begin_), .string (bs y.end_), .int .i64 y.most, vY] 24)) 38 #[.string (bs c.key), .string (bs c.type), vA, vE, vF, .string (bs c.lang), .string (bs c.suffix), .int .i64 c.number, .int .i64 c.most])
  have HK1 := Lib.hid (kept_alloc (w.alloc (.cells #[.string (bs y.name), .bool y.numeric, .string (bs y.sort), .string (bs y.cite), .string (bs y.bare), .string (bs y.between), .string (bs y.begin_), .string (bs y.end_), .int .i64 y.most, vY] 24)) (.cells #[.string (bs c.key), .string (bs c.type), vA, vE, vF, .string (bs c.lang), .string (bs c.suffix), .int .i64 c.number, .int .i64 c.most] 38))
  have e1 : (w.alloc (.cells #[.string (bs y.name), .bool y.numeric, .string (bs y.sort), .string (bs y.cite), .string (bs y.bare), .string (bs y.between), .string (bs y.begin_), .string (bs y.end_), .int .i64 y.most, vY] 24)).heap.size = w.heap.size + 1 := by simp
  rw [e1] at HS1
  clear hg hT hA hE hF hY hfy
  unfold styV styCells at *
  go_enter Tryz.func7, Tryz.ntmps7
  go_wp2_with fail
  have HBY := Lib.hid (HS0.out.kept HK1.out)
  have HKW := Lib.hid (HK0.out.trans HK1.out)
  clear HS0 HK0 HK1 e1
  generalize World.alloc (World.alloc _ _) _ = w0 at HS1 HBY HKW ⊢
  obtain ⟨S, HSS⟩ : ∃ B, Hid (w.heap.size = B) := ⟨_, rfl⟩
  rw [HSS.out] at HS1 HBY ⊢
  obtain ⟨C, HCC⟩ : ∃ B, Hid (S + 1 = B) := ⟨_, rfl⟩
  rw [HCC.out] at HS1 ⊢
  refine (HLI.out _ (HY.out.kept HKW.out)).mono ?_
  rintro e w1 ⟨b, rfl, hb, hk1⟩
  have HLB := Lib.hid hb
  have HK1 := Lib.hid (HKW.out.trans hk1)
  have HC1 := Lib.hid (HS1.out.kept hk1)
  have HY1 := Lib.hid (HBY.out.kept hk1)
  clear hb hk1 HLI HS1 HBY HKW HSS HCC
  cases b with
  | false =>
    go_wp2_with fail
    refine (HAW.out _ (HG.out.kept HK1.out) (HT.out.kept HK1.out)).mono ?_
    rintro e w9 ⟨rfl, hk9⟩
    have HK9 := Lib.hid (HK1.out.trans hk9)
    clear hk9
    go_wp2_with fail
    go_ret
    exact ⟨rfl, HK9.out⟩
  | true =>
  have HSMY := Lib.hid (HLB.out rfl).small
  clear HLB
  have c0 : w1.cell? ⟨C, 0, none⟩ = some (.string (bs c.key)) := HC1.out.cell 0 _ rfl
  have c1 : w1.cell? ⟨C, 1, none⟩ = some (.string (bs c.type)) := HC1.out.cell 1 _ rfl
  have c2 : w1.cell? ⟨C, 2, none⟩ = some vA := HC1.out.cell 2 _ rfl
  have c3 : w1.cell? ⟨C, 3, none⟩ = some vE := HC1.out.cell 3 _ rfl
  have c4 : w1.cell? ⟨C, 4, none⟩ = some vF := HC1.out.cell 4 _ rfl
  have cz := HC1.out.lt
  go_wp2_with fail
  refine (HSH.out _ (HA.out.kept HK1.out) (HE.out.kept HK1.out) (HF.out.kept HK1.out)).mono ?_
  rintro e w2 ⟨b, rfl, hb, hk2⟩
  have HSB := Lib.hid hb
  have HK2 := Lib.hid (HK1.out.trans hk2)
  have HC2 := Lib.hid (HC1.out.kept hk2)
  have HY2 := Lib.hid (HY1.out.kept hk2)
  clear hb hk2 HSH HK1 HC1 HY1 c0 c1 c2 c3 c4 cz
  cases b with
  | false =>
    go_wp2_with fail
    refine (HAW.out _ (HG.out.kept HK2.out) (HT.out.kept HK2.out)).mono ?_
    rintro e w9 ⟨rfl, hk9⟩
    have HK9 := Lib.hid (HK2.out.trans hk9)
    clear hk9
    go_wp2_with fail
    go_ret
    exact ⟨rfl, HK9.out⟩
  | true =>
  have HSS := Lib.hid (HSB.out rfl)
  clear HSB
  have c5 : w2.cell? ⟨C, 5, none⟩ = some (.string (bs c.lang)) := HC2.out.cell 5 _ rfl
  have c6 : w2.cell? ⟨C, 6, none⟩ = some (.string (bs c.suffix)) := HC2.out.cell 6 _ rfl
  have cz := HC2.out.lt
  by_cases g2 : 100 < c.suffix.length
  · skip
    go_wp2_with fail
    refine (HAW.out _ (HG.out.kept HK2.out) (HT.out.kept HK2.out)).mono ?_
    rintro e w9 ⟨rfl, hk9⟩
    have HK9 := Lib.hid (HK2.out.trans hk9)
    clear hk9
    go_wp2_with fail
    go_ret
    exact ⟨rfl, HK9.out⟩
  by_cases g3 : 100 < c.lang.length
  · skip
    go_wp2_with fail
    refine (HAW.out _ (HG.out.kept HK2.out) (HT.out.kept HK2.out)).mono ?_
    rintro e w9 ⟨rfl, hk9⟩
    have HK9 := Lib.hid (HK2.out.trans hk9)
    clear hk9
    go_wp2_with fail
    go_ret
    exact ⟨rfl, HK9.out⟩
  have HFV : Hid (FitV (mostC c y.most)) := short_fit (c := mostC c y.most) HSS.out HFC.out (by show c.suffix.length ≤ 100; omega)
  have HCK := Lib.hid (fun w h => rcheck31_any vY y w HSMY.out h)
  unfold styV styCells at HCK
  obtain ⟨⟨r0, r1, r2, r3, r4, r5, r6, r7, r8, r9⟩, rz⟩ := sty_cells HY2.out
  clear HSS HFC
  go_wp2_with fail
  refine (HCK.out _ (HY.out.kept HK2.out)).mono ?_
  rintro e w3 ⟨rfl, hk3⟩
  have HK3 := Lib.hid (HK2.out.trans hk3)
  have HC3 := Lib.hid (HC2.out.kept hk3)
  have HY3 := Lib.hid (HY2.out.kept hk3)
  clear hk3 HCK HK2 HC2 HY2 c5 c6 cz r0 r1 r2 r3 r4 r5 r6 r7 r8 r9 rz
  by_cases hst : styE y = 0
  case neg =>
    have h' : (styE y == 0) = false := by rw [beq_eq_false_iff_ne]; exact hst
    have h2 : (styE y != 0) = true := by rw [bne, h']; rfl
    generalize styE y = E at *
    clear hst
    go_wp2_with fail
    refine (HAW.out _ (HG.out.kept HK3.out) (HT.out.kept HK3.out)).mono ?_
    rintro e w9 ⟨rfl, hk9⟩
    have HK9 := Lib.hid (HK3.out.trans hk9)
    clear hk9
    go_wp2_with fail
    go_ret
    exact ⟨rfl, HK9.out⟩
  have HIN := Lib.hid (tell_in (mostC c y.most) hst)
  have HLEN := Lib.hid (fillS_len (mostC c y.most) y.cite HFV.out (by have := HSMY.out.2.2.1; omega))
  have HFI : Hid (∀ w, Gnd w → Lib.TabIs Tryz.prog w "internal/strconv.uint64pow10" .u64 Lib.pow10Tab → Perss w vA c.author → Perss w vE c.editor → Prs w vF c.fields → Calls Tryz.prog 17 #[.string (bs y.cite), .agg #[.string (bs c.key), .string (bs c.type), vA, vE, vF], .agg #[.string (bs y.name), .bool y.numeric, .string (bs y.sort), .string (bs y.cite), .string (bs y.bare), .string (bs y.between), .string (bs y.begin_), .string (bs y.end_), .int .i64 y.most, vY], .string (bs c.lang), .string (bs c.suffix), .int .i64 c.number] w fun e w' => e = .returned (.tuple #[.string (bs (fillS (mostC c y.most) y.cite)), .int .i64 0]) ∧ Kept w w') := fun w h1 h2 h3 h4 h5 => by
    have := sfill_any (mostC c y.most) y.cite vA vE vF vY y w rfl HYO.out h1 h2 (by have := HSMY.out.2.2.1; omega) HFV.out h3 h4 h5
    rw [(sty_free hst).1] at this
    exact this
  rw [hst]
  have HNV : Hid (¬ c.number < 1 → valS (mostC c y.most) kNumber = Lib.decDigits c.number.toNat) := fun h => by
    rw [valS_in (x := numS (mostC c y.most)) rfl]
    show (if c.number < 1 then [] else Lib.itoa c.number) = _
    rw [if_neg h]
    obtain ⟨n, e⟩ : ∃ n : Nat, c.number = n := ⟨c.number.toNat, by omega⟩
    rw [e, itoa_nat, Int.toNat_natCast]
  have HSV : Hid (valS (mostC c y.most) kSuffix = c.suffix) := valS_in rfl
  clear hst HFV
  generalize fillS (mostC c y.most) y.cite = T at *
  have c0 : w3.cell? ⟨C, 0, none⟩ = some (.string (bs c.key)) := HC3.out.cell 0 _ rfl
  have c1 : w3.cell? ⟨C, 1, none⟩ = some (.string (bs c.type)) := HC3.out.cell 1 _ rfl
  have c2 : w3.cell? ⟨C, 2, none⟩ = some vA := HC3.out.cell 2 _ rfl
  have c3 : w3.cell? ⟨C, 3, none⟩ = some vE := HC3.out.cell 3 _ rfl
  have c4 : w3.cell? ⟨C, 4, none⟩ = some vF := HC3.out.cell 4 _ rfl
  have c5 : w3.cell? ⟨C, 5, none⟩ = some (.string (bs c.lang)) := HC3.out.cell 5 _ rfl
  have c6 : w3.cell? ⟨C, 6, none⟩ = some (.string (bs c.suffix)) := HC3.out.cell 6 _ rfl
  have c7 : w3.cell? ⟨C, 7, none⟩ = some (.int .i64 c.number) := HC3.out.cell 7 _ rfl
  have cz := HC3.out.lt
  obtain ⟨⟨r0, r1, r2, r3, r4, r5, r6, r7, r8, r9⟩, rz⟩ := sty_cells HY3.out
  go_wp2_with fail
  refine (HFI.out _ (HG.out.kept HK3.out) (HT.out.kept HK3.out) (HA.out.kept HK3.out) (HE.out.kept HK3.out) (HF.out.kept HK3.out)).mono ?_
  rintro e w4 ⟨rfl, hk4⟩
  have HK4 := Lib.hid (HK3.out.trans hk4)
  have HC4 := Lib.hid (HC3.out.kept hk4)
  have HY4 := Lib.hid (HY3.out.kept hk4)
  clear hk4 HFI HK3 HC3 HY3 r0 r1 r2 r3 r4 r5 r6 r7 r8 r9 rz c0 c1 c2 c3 c4 c5 c6 c7 cz
  have n1 : w4.cell? ⟨S, 1, none⟩ = some (.bool y.numeric) := HY4.out.cell 1 _ rfl
  have nz := HY4.out.lt
  have c6 : w4.cell? ⟨C, 6, none⟩ = some (.string (bs c.suffix)) := HC4.out.cell 6 _ rfl
  have c7 : w4.cell? ⟨C, 7, none⟩ = some (.int .i64 c.number) := HC4.out.cell 7 _ rfl
  have cz := HC4.out.lt
  have hln := HLEN.out
  cases hnu : y.numeric with
  | false =>
    rw [hnu] at n1 HIN
    simp only [Bool.false_eq_true, if_false] at HIN
    rw [HSV.out] at HIN
    have HCT := Lib.hid (fun w => scontains_any T c.suffix w hln (by omega) HIN.out)
    clear hnu HNV HSV
    go_wp2_with fail
    refine (HCT.out _).mono ?_
    rintro e w5 ⟨rfl, hk5⟩
    have HK5 := Lib.hid (HK4.out.trans hk5)
    clear hk5
    go_wp2_with fail
    refine (HAW.out _ (HG.out.kept HK5.out) (HT.out.kept HK5.out)).mono ?_
    rintro e w9 ⟨rfl, hk9⟩
    have HK9 := Lib.hid (HK5.out.trans hk9)
    clear hk9
    go_wp2_with fail
    go_ret
    exact ⟨rfl, HK9.out⟩
  | true =>
    rw [hnu] at n1 HIN
    simp only [if_true] at HIN
    clear hnu
    by_cases hn1 : c.number < 1
    · clear HNV
      go_wp2_with fail
      refine (HAW.out _ (HG.out.kept HK4.out) (HT.out.kept HK4.out)).mono ?_
      rintro e w9 ⟨rfl, hk9⟩
      have HK9 := Lib.hid (HK4.out.trans hk9)
      clear hk9
      go_wp2_with fail
      go_ret
      exact ⟨rfl, HK9.out⟩
    · rw [HNV.out (by omega)] at HIN
      obtain ⟨n, hcn⟩ : ∃ n : Nat, c.number = n := ⟨c.number.toNat, by omega⟩
      rw [hcn, Int.toNat_natCast] at HIN
      rw [hcn] at c7 fn hn1
      have hdl : (Lib.decDigits n).length ≤ 21 := by
        have := itoa_len (n : Int) (by omega) (by omega)
        rw [itoa_nat] at this; exact this
      have HCT := Lib.hid (fun w => scontains_any T (Lib.decDigits n) w hln (by omega) HIN.out)
      have HNU := Lib.hid (fun w => snum31_any n w (by omega))
      have hn2 : decide ((n : Int) < 1) = false := decide_eq_false hn1
      clear HNV HSV hcn
      go_wp2_with fail
      refine (HNU.out _).mono ?_
      rintro e w5 ⟨rfl, hk5⟩
      have HK5 := Lib.hid (HK4.out.trans hk5)
      clear hk5
      go_wp2_with fail
      refine (HCT.out _).mono ?_
      rintro e w6 ⟨rfl, hk6⟩
      have HK6 := Lib.hid (HK5.out.trans hk6)
      clear hk6
      go_wp2_with fail
      refine (HAW.out _ (HG.out.kept HK6.out) (HT.out.kept HK6.out)).mono ?_
      rintro e w9 ⟨rfl, hk9⟩
      have HK9 := Lib.hid (HK6.out.trans hk9)
      clear hk9
      go_wp2_with fail
      go_ret
      exact ⟨rfl, HK9.out⟩
end Go.Proofs.YtofeonnmoakbaaaGreatDoor
