/- The law PersonSpaces answers true of every text and number. No condition. -/
import Derived.Test.YtflpkadknljpbaaDoorAwk
set_option linter.all false
namespace Go.Proofs.YtflpkadknljpbaaDoor
open Go.RowKit

theorem spaces_len (n : Nat) : (spaces n).length = n := by simp [spaces]
theorem spaces_snoc (n : Nat) : spaces (n + 1) = spaces n ++ [32] := by simp [spaces, List.replicate_succ']
theorem wide_snoc (n : Nat) (l : Bs) (b : UInt8) : wideL n (l ++ [b]) = wideL n l ++ (if b = 44 then spaces n ++ 44 :: spaces n else [b]) := by simp [wideL]
theorem wide_len (n : Nat) (hn : n ≤ 3) : ∀ l : Bs, (wideL n l).length ≤ 7 * l.length
  | [] => by simp [wideL]
  | b :: l => by
    have ih := wide_len n hn l
    unfold wideL at ih ⊢
    rw [List.flatMap_cons, List.length_append]
    by_cases h : b = 44
    · rw [if_pos h]; simp [spaces_len] at ih ⊢; omega
    · rw [if_neg h]; simp at ih ⊢; omega

set_option maxRecDepth 100000 in
set_option maxHeartbeats 3200000 in
theorem lspaces_nat (l : Bs) (n : Nat) (w : World) (hg : Gnd w) (hl : l.length ≤ maxLen) (hn : n < 256) : Calls Tryd.prog 8 #[.string (bs l), .int .u8 n] w fun e w' => e = .returned (.bool true) ∧ Kept w w' := by
  unfold maxLen at hl
  have HG := Lib.hid hg
  clear hg
  by_cases h4 : l.length ≤ 200
  · obtain ⟨m, hm⟩ : ∃ m, m = n % 4 := ⟨_, rfl⟩
    have hm3 : m ≤ 3 := by omega
    have hmi : (n : Int) % 4 = (m : Int) := by omega
    have HM := Lib.hid hmi
    have HP := Lib.hid (fun w hg => parse_any l w hg (by omega))
    have hwl := wide_len m hm3 l
    have HQ := Lib.hid (fun w hg => parse_any (spaces m ++ wideL m l ++ spaces m) w hg (by simp [spaces_len]; omega))
    unfold ParsePost at HP HQ
    rw [parse_spaces] at HQ
    rw [List.append_assoc] at HQ
    generalize (parseR l).1 = en at *
    generalize (parseR l).2 = q at *
    obtain ⟨q1, q2, q3, q4⟩ := q
    clear hm hmi
    go_enter Tryd.func8, Tryd.ntmps8
    go_wp2_with fail
    simp only [mk_bs]
    go_loop [5, 6] (fun t i => ∃ (k : Nat), k ≤ m ∧ i = .int .i64 k ∧ t = .string (bs (spaces k))) (fun _ i => m - (intOf i).toNat)
    case atStart => exact ⟨0, Nat.zero_le _, rfl, rfl⟩
    case round =>
      obtain ⟨k, hk, rfl, rfl⟩ := hrel
      have hmi := HM.out
      by_cases hlt : k < m
      · have hsl := spaces_len k
        have HS := Lib.hid (spaces_snoc k)
        have hsl : (spaces k).length ≤ 3 := by omega
        generalize spaces k = sk at *
        go_wp2_with fail
        go_round
        case rel => exact ⟨k + 1, by omega, by go_num, by rw [HS.out]⟩
        case measure => simp [intOf]; omega
      · obtain rfl : k = m := by omega
        have hsl : (spaces k).length ≤ 3 := by rw [spaces_len]; omega
        go_wp2_with fail
        generalize hsk : spaces k = sk at *
        have HSK := Lib.hid hsk
        clear hsk hmi
        go_loop [7, 8] (fun t i => ∃ (j : Nat), j ≤ l.length ∧ i = .int .i64 j ∧ t = .string (bs (sk ++ wideL k (l.take j)))) (fun _ i => l.length - (intOf i).toNat)
        case atStart => exact ⟨0, Nat.zero_le _, rfl, by simp [wideL]⟩
        case round =>
          obtain ⟨j, hj, rfl, rfl⟩ := hrel
          by_cases hjl : j < l.length
          · have i0 := run_ix (P := Tryd.prog) (t := 9) Tryd.underlying9 l j hjl j rfl
            have sl := run_sub (P := Tryd.prog) (t := 9) Tryd.underlying9 l j (j + 1) (by omega) (by omega) j (j + 1) rfl (by omega) _ (sub_one l j hjl)
            have HN : Hid (wideL k (l.take (j + 1)) = wideL k (l.take j) ++ (if l[j] = 44 then sk ++ 44 :: sk else [l[j]])) := by show _ = _; rw [take_next l j hjl, wide_snoc, HSK.out]
            have hwj := wide_len k hm3 (l.take j)
            have hwj : (wideL k (l.take j)).length ≤ 1400 := by simp at hwj; omega
            have HC : Hid (at8 l j = 44 ↔ l[j] = 44) := by show _ ↔ _; rw [at8_get l j hjl]; exact u8_int _ 44 (by decide)
            generalize l[j] = x at *
            generalize at8 l j = b at *
            generalize wideL k (l.take j) = wj at *
            by_cases hb : b = 44
            · have HX := Lib.hid (HC.out.1 hb)
              have hb' : (b == 44) = true := by simpa using hb
              clear hb HC
              go_wp2_with fail
              go_round
              case rel => exact ⟨j + 1, by omega, by go_num, by rw [HN.out, if_pos HX.out]⟩
              case measure => simp [intOf]; omega
            · have HX : Hid (¬ x = 44) := fun q => hb (HC.out.2 q)
              have hb' : (b == 44) = false := by simpa using hb
              clear hb HC
              go_wp2_with fail
              go_round
              case rel => exact ⟨j + 1, by omega, by go_num, by rw [HN.out, if_neg HX.out]⟩
              case measure => simp [intOf]; omega
          · rw [List.take_of_length_le (by omega)]
            go_wp2_with fail
            refine (HP.out _ HG.out).mono ?_
            rintro e w1 ⟨rfl, hk1⟩
            have HK1 := Lib.hid hk1
            clear hk1
            go_wp2_with fail
            refine (HQ.out _ (HG.out.kept (HK1.out.trans (kept_alloc _ _)))).mono ?_
            rintro e w2 ⟨rfl, hk2⟩
            have HB := Lib.hid ((Blk.new w1 24 #[.string (bs q1), .string (bs q2), .string (bs q3), .string (bs q4)]).kept hk2)
            have HK2 := Lib.hid ((HK1.out.trans (kept_alloc _ _)).trans hk2)
            clear hk2
            have c0 : w2.cell? ⟨w1.heap.size, 0, none⟩ = some (.string (bs q1)) := HB.out.cell 0 _ rfl
            have c1 : w2.cell? ⟨w1.heap.size, 1, none⟩ = some (.string (bs q2)) := HB.out.cell 1 _ rfl
            have c2 : w2.cell? ⟨w1.heap.size, 2, none⟩ = some (.string (bs q3)) := HB.out.cell 2 _ rfl
            have c3 : w2.cell? ⟨w1.heap.size, 3, none⟩ = some (.string (bs q4)) := HB.out.cell 3 _ rfl
            have z1 := HB.out.lt
            go_wp2_with fail
            refine (awake_any _ (HG.out.kept (HK2.out.trans (kept_alloc _ _)))).mono ?_
            rintro e w3 ⟨rfl, hk3⟩
            have HK3 := Lib.hid ((HK2.out.trans (kept_alloc _ _)).trans hk3)
            clear hk3
            go_wp2_with fail
            go_ret
            exact ⟨rfl, HK3.out⟩
  · go_enter Tryd.func8, Tryd.ntmps8
    go_wp2_with fail
    refine (awake_any _ HG.out).mono ?_
    rintro e w1 ⟨rfl, hk1⟩
    have HK1 := Lib.hid hk1
    clear hk1
    go_wp2_with fail
    go_ret
    exact ⟨rfl, HK1.out⟩
theorem lspaces_any (l : Bs) (n : Int) (w : World) (hg : Gnd w) (hl : l.length ≤ maxLen) (hn : (Lit.int .u8 n).wf = true) : Calls Tryd.prog 8 #[.string (bs l), .int .u8 n] w fun e w' => e = .returned (.bool true) ∧ Kept w w' := by
  have h : 0 ≤ n ∧ n < 256 := by
    have := hn
    simp [Lit.wf, IntKind.min, IntKind.max, IntKind.signed, IntKind.bits] at this
    omega
  obtain ⟨m, rfl⟩ : ∃ m : Nat, n = m := ⟨n.toNat, by omega⟩
  exact lspaces_nat l m w hg hl (by omega)
end Go.Proofs.YtflpkadknljpbaaDoor
