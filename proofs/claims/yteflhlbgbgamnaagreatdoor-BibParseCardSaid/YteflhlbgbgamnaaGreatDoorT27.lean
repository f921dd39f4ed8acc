/- The reference's Parse of layer 29 at a brace, and the whole. Conditions: lengths. -/
import Derived.Test.YteflhlbgbgamnaaGreatDoorT26

set_option linter.all false
namespace Go.Proofs.YteflhlbgbgamnaaGreatDoor
open Go.RowKit

set_option maxRecDepth 100000 in
set_option maxHeartbeats 6400000 in
theorem rparse_open (l : Bs) (w : World) (hs : l.length ≤ 1000000) (hl : lineB l = true) (r : Bs) (HC : Hid (cleanL l = 123 :: r)) (hr : r.length ≤ 1000001) (hbr : ¬ before 125 r < r.length) :
    Calls Tryz.prog 16 #[.string (bs l)] w fun e w' => e = .returned (.tuple #[persV [] [] [] [], .int .i64 5]) ∧ Kept w w' := by
  obtain ⟨i0', hi', hz0, hz1, hz2⟩ := info_parts Tryz.infoStr
  have hcl := cleanL_le l
  go_enter Tryz.func16, Tryz.ntmps16
  go_wp2_with fail
  refine (rline_any l _ (by omega)).mono ?_
  rintro e w1 ⟨rfl, hk1⟩
  rw [hl]
  have HR := Lib.hid ((Blk.new w 32 #[Value.string (bs []), Value.string (bs []), Value.string (bs []), Value.string (bs [])]).kept hk1)
  have HK := Lib.hid ((kept_alloc w _).trans hk1)
  clear hk1
  go_wp2_with fail
  refine (rcleaned_any l _ (by omega)).mono ?_
  rintro e w' ⟨rfl, rfl⟩
  rw [HC.out]
  have e0 : at8 (123 :: r) 0 = 123 := rfl
  have i0 := run_ix (P := Tryz.prog) (t := 9) Tryz.underlying9 (123 :: r) 0 (by simp) 0 rfl
  rw [e0] at i0
  have hlen : (123 :: r).length = r.length + 1 := rfl
  have hby : ∀ k, k < before 125 r + 1 → k < r.length + 1 → (at8 (123 :: r) k != 125) = true := by
    intro k hk hk2
    rw [bne_iff_ne, at8_get _ k (by simpa using hk2)]
    intro q
    have q' := (u8_int _ 125 (by decide)).1 q
    cases k with
    | zero => exact absurd (show (123 : UInt8) = UInt8.ofNat 125 from q') (by decide)
    | succ k => exact before_none 125 r k (by omega) (by omega) q'
  have hend : before 125 r < r.length → (at8 (123 :: r) (before 125 r + 1) != 125) = false := by
    intro h
    rw [bne_eq_false_iff_eq, at8_get _ _ (by simpa using h)]
    exact (u8_int _ 125 (by decide)).2 (before_here 125 r h)
  have hble := before_le 125 r
  have HBY := Lib.hid hby
  have HEND := Lib.hid hend
  have HLEN := Lib.hid hlen
  clear e0 hby hend hlen
  have hbe : before 125 r = r.length := by omega
  generalize hq : before 125 r = m at *
  have HQ := Lib.hid hq
  clear hq
  obtain ⟨z, hz⟩ : ∃ z, z = (123 :: r : Bs) := ⟨_, rfl⟩
  have hze : z.isEmpty = false := by rw [hz]; rfl
  have hze' : ¬ z = [] := by rw [hz]; simp
  have hzl : z.length = r.length + 1 := by rw [hz]; rfl
  rw [← hz] at i0 HBY HEND ⊢
  have HZL := Lib.hid hzl
  have HZ := Lib.hid hz
  have hzA : z.length ≤ 1000002 := by omega
  have hzB : m + 1 ≤ z.length := by omega
  clear hz hzl HLEN
  go_wp2_with fail
  go_loop [6] (fun i => ∃ k : Nat, k ≤ m + 1 ∧ i = .int .i64 k) (fun i => z.length - (intOf i).toNat)
  case atStart => exact ⟨0, Nat.zero_le _, rfl⟩
  case round =>
    obtain ⟨k, hk, rfl⟩ := hrel
    by_cases hkm : k < m + 1
    · have i1 := run_ix (P := Tryz.prog) (t := 9) Tryz.underlying9 z k (by omega) k rfl
      have hn := HBY.out k hkm (by rw [← HZL.out]; omega)
      generalize at8 z k = b at *
      go_wp2_with fail
      go_round
      case rel => exact ⟨k + 1, by omega, by go_num⟩
      case measure => simp [intOf]; omega
    · obtain rfl : k = m + 1 := by omega
      have hnl : ¬ m + 1 < z.length := by have := HZL.out; omega
      have heq2 : (z.length : Int) ≤ m + 1 := by omega
      clear hbe
      have cR0 := HR.out.cell 0 _ rfl
      have fR0 := HR.out.free 0
      have cR1 := HR.out.cell 1 _ rfl
      have fR1 := HR.out.free 1
      have cR2 := HR.out.cell 2 _ rfl
      have fR2 := HR.out.free 2
      have cR3 := HR.out.cell 3 _ rfl
      have fR3 := HR.out.free 3
      have hzR := HR.out.lt
      go_wp2_with fail
      refine bodyPost_ret (v := .tuple #[persV [] [] [] [], .int .i64 5]) (by simp [results, Tryz.results16, go_sem, cR0, cR1, cR2, cR3, fR0, fR1, fR2, fR3, hzR]) rfl ⟨rfl, ?_⟩
      exact kept_set (kept_set (kept_set (kept_set HK.out _ _ _ (Nat.le_refl _)) _ _ _ (Nat.le_refl _)) _ _ _ (Nat.le_refl _)) _ _ _ (Nat.le_refl _)

set_option maxRecDepth 100000 in
set_option maxHeartbeats 6400000 in
theorem rparse_b (l : Bs) (w : World) (hs : l.length ≤ 1000000) (hl : lineB l = true) (r : Bs) (HC : Hid (cleanL l = 123 :: r)) (hr : r.length ≤ 1000001) (hbr : before 125 r < r.length) (p t : Bs) (HPC : Hid (cleanL (r.take (before 125 r)) = p)) (HRC : Hid (r.drop (before 125 r + 1) = t)) (hpl : p.length ≤ 1000010) (ht : t.length ≤ 1000001) :
    Calls Tryz.prog 16 #[.string (bs l)] w fun e w' => e = .returned (.tuple #[p4V (restR p t).2, .int .i64 (restR p t).1]) ∧ Kept w w' := by
  obtain ⟨i0', hi', hz0, hz1, hz2⟩ := info_parts Tryz.infoStr
  have hcl := cleanL_le l
  go_enter Tryz.func16, Tryz.ntmps16
  go_wp2_with fail
  refine (rline_any l _ (by omega)).mono ?_
  rintro e w1 ⟨rfl, hk1⟩
  rw [hl]
  have HR := Lib.hid ((Blk.new w 32 #[Value.string (bs []), Value.string (bs []), Value.string (bs []), Value.string (bs [])]).kept hk1)
  have HK := Lib.hid ((kept_alloc w _).trans hk1)
  clear hk1
  go_wp2_with fail
  refine (rcleaned_any l _ (by omega)).mono ?_
  rintro e w' ⟨rfl, rfl⟩
  rw [HC.out]
  have e0 : at8 (123 :: r) 0 = 123 := rfl
  have i0 := run_ix (P := Tryz.prog) (t := 9) Tryz.underlying9 (123 :: r) 0 (by simp) 0 rfl
  rw [e0] at i0
  have hlen : (123 :: r).length = r.length + 1 := rfl
  have hby : ∀ k, k < before 125 r + 1 → k < r.length + 1 → (at8 (123 :: r) k != 125) = true := by
    intro k hk hk2
    rw [bne_iff_ne, at8_get _ k (by simpa using hk2)]
    intro q
    have q' := (u8_int _ 125 (by decide)).1 q
    cases k with
    | zero => exact absurd (show (123 : UInt8) = UInt8.ofNat 125 from q') (by decide)
    | succ k => exact before_none 125 r k (by omega) (by omega) q'
  have hend : before 125 r < r.length → (at8 (123 :: r) (before 125 r + 1) != 125) = false := by
    intro h
    rw [bne_eq_false_iff_eq, at8_get _ _ (by simpa using h)]
    exact (u8_int _ 125 (by decide)).2 (before_here 125 r h)
  have hble := before_le 125 r
  have HBY := Lib.hid hby
  have HEND := Lib.hid hend
  have HLEN := Lib.hid hlen
  clear e0 hby hend hlen
  generalize hq : before 125 r = m at *
  have HQ := Lib.hid hq
  clear hq
  obtain ⟨z, hz⟩ : ∃ z, z = (123 :: r : Bs) := ⟨_, rfl⟩
  have hze : z.isEmpty = false := by rw [hz]; rfl
  have hze' : ¬ z = [] := by rw [hz]; simp
  have hzl : z.length = r.length + 1 := by rw [hz]; rfl
  rw [← hz] at i0 HBY HEND ⊢
  have HZL := Lib.hid hzl
  have HZ := Lib.hid hz
  have hzA : z.length ≤ 1000002 := by omega
  have hzB : m + 1 ≤ z.length := by omega
  clear hz hzl HLEN
  go_wp2_with fail
  go_loop [6] (fun i => ∃ k : Nat, k ≤ m + 1 ∧ i = .int .i64 k) (fun i => z.length - (intOf i).toNat)
  case atStart => exact ⟨0, Nat.zero_le _, rfl⟩
  case round =>
    obtain ⟨k, hk, rfl⟩ := hrel
    by_cases hkm : k < m + 1
    · have i1 := run_ix (P := Tryz.prog) (t := 9) Tryz.underlying9 z k (by omega) k rfl
      have hn := HBY.out k hkm (by rw [← HZL.out]; omega)
      generalize at8 z k = b at *
      go_wp2_with fail
      go_round
      case rel => exact ⟨k + 1, by omega, by go_num⟩
      case measure => simp [intOf]; omega
    · obtain rfl : k = m + 1 := by omega
      have i1 := run_ix (P := Tryz.prog) (t := 9) Tryz.underlying9 z (m + 1) (by have := HZL.out; omega) (m + 1) (by omega)
      have hn := HEND.out hbr
      have hlt2 : m + 1 < z.length := by have := HZL.out; omega
      have sl1 := run_sub (P := Tryz.prog) (t := 9) Tryz.underlying9 z 1 (m + 1) (by omega) (by omega) 1 (m + 1) rfl (by omega) (r.take m) (by rw [HZ.out]; simp)
      have sl2 := run_from (P := Tryz.prog) (t := 9) Tryz.underlying9 z (m + 2) (by omega) (m + 1 + 1) (by omega) t (by rw [← HRC.out, HZ.out]; rfl)
      have hrl : (r.take m).length ≤ 1000001 := by simp; omega
      generalize at8 z (m + 1) = b at *
      go_wp2_with fail
      refine (rcleaned_any (r.take m) _ (by omega)).mono ?_
      rintro e w' ⟨rfl, rfl⟩
      rw [HPC.out]
      clear sl1 i1 hn hrl HBY HEND hze hze' i0 HZ HZL HPC HRC HQ
      go_wp2_with fail
      try simp only [mk_bs]
      go_loopw [7, 8, 9] (fun v fv i wr => ∃ (k fr : Nat) (xs : List Bs), k ≤ t.length + 1 ∧ i = .int .i64 k ∧ fv = .int .i64 fr ∧ fr ≤ t.length + 1 ∧ xs.length ≤ k ∧ wr.ownsRow w1.heap.size 9 1 v xs.length (strCells xs) ∧ Hid (FieldSt t k fr xs) ∧ Kept w1 wr) (fun _ _ i _ => t.length + 1 - (intOf i).toNat)
      case atStart => exact ⟨0, 0, [], Nat.zero_le _, rfl, rfl, Nat.zero_le _, Nat.le_refl _, World.ownsRow_nil _ _ _ _, FieldSt.start t, Kept.refl _⟩
      case round =>
        obtain ⟨k, fr, xs, hk, rfl, rfl, hfr, hxl, hown, HS, hkr⟩ := hrel
        have hsz : w1.heap.size ≤ wr.heap.size := hkr.size
        have HKR := Lib.hid hkr
        have HOWN := Lib.hid hown
        clear hkr hown
        by_cases hlt : k < t.length
        · have i0 := run_ix (P := Tryz.prog) (t := 9) Tryz.underlying9 t k hlt k rfl
          have hne : ((k : Int) == (t.length : Int)) = false := by rw [beq_eq_false_iff_ne]; omega
          have HC : Hid (at8 t k = 44 ↔ t[k] = 44) := by show _ ↔ _; rw [at8_get t k hlt]; exact u8_int _ 44 (by decide)
          by_cases hb : at8 t k = 44
          · obtain ⟨hst, hfk⟩ := HS.out.comma hlt (HC.out.1 hb)
            have sl := run_sub (P := Tryz.prog) (t := 9) Tryz.underlying9 t fr k hfk (by omega) fr k rfl rfl _ rfl
            have hcl : ((t.drop fr).take (k - fr)).length ≤ t.length := by simp; omega
            have HST := Lib.hid hst
            have hown := HOWN.out
            generalize (t.drop fr).take (k - fr) = y at *
            generalize at8 t k = b at *
            clear hst HC
            go_wp2_with fail
            refine (rcleaned_any y _ (by omega)).mono ?_
            rintro e w' ⟨rfl, rfl⟩
            go_wp2_with (at_builtin; refine wpList_append_own _ rfl _ _ 29 rfl w1.heap.size 9 i0' (.string ⟨#[]⟩) 1 16 Tryz.underlying29 hi' hz0 hz1 hz2 rfl (by decide) _ _ _ rfl (hown.alloc _) ⟨wr.heap.size, 0, none⟩ 1 1 [.string (bs (cleanL y))] rfl rfl ?_ ?_ ?_ ?_ ?_ ?_)
            · exact new_cells _ #[.string (bs (cleanL y))] _ _ (by simp)
            · intro u hu; simp at hu; subst hu; rfl
            · unfold maxLen; omega
            · omega
            · simp; omega
            intro v' w2 hown2 hgrow _
            have HB2 := Lib.hid ((HKR.out.trans (kept_alloc wr _)).trans' (grown_below (hown.alloc _) hgrow (by simp; omega)))
            rw [← strCells_snoc] at hown2
            have HO := Lib.hid hown2
            clear hown2 hgrow hown
            go_wp2_with fail
            go_roundw
            case rel => exact ⟨k + 1, k + 1, xs ++ [cleanL y], by omega, by go_num, by go_num, by omega, by simp; omega, by simpa using HO.out, HST.out, HB2.out⟩
            case measure => simp [intOf]; omega
          · obtain ⟨hst, hfk⟩ := HS.out.other hlt (fun q => hb (HC.out.2 q))
            have HST := Lib.hid hst
            have hb' : (at8 t k == 44) = false := by simpa using hb
            generalize at8 t k = b at *
            clear hst HC hb
            go_wp2_with fail
            go_roundw
            case rel => exact ⟨k + 1, fr, xs, by omega, by go_num, rfl, by omega, by omega, HOWN.out, HST.out, HKR.out⟩
            case measure => simp [intOf]; omega
        by_cases heq : k = t.length
        · subst heq
          obtain ⟨hst, hfk⟩ := HS.out.last
          have sl := run_sub (P := Tryz.prog) (t := 9) Tryz.underlying9 t fr t.length hfk (by omega) fr t.length rfl rfl (t.drop fr) (List.take_of_length_le (by simp))
          have hcl : (t.drop fr).length ≤ t.length := by simp
          have HST := Lib.hid hst
          have hown := HOWN.out
          generalize hy : t.drop fr = y at *
          clear hst hy
          go_wp2_with fail
          refine (rcleaned_any y _ (by omega)).mono ?_
          rintro e w' ⟨rfl, rfl⟩
          go_wp2_with (at_builtin; refine wpList_append_own _ rfl _ _ 29 rfl w1.heap.size 9 i0' (.string ⟨#[]⟩) 1 16 Tryz.underlying29 hi' hz0 hz1 hz2 rfl (by decide) _ _ _ rfl (hown.alloc _) ⟨wr.heap.size, 0, none⟩ 1 1 [.string (bs (cleanL y))] rfl rfl ?_ ?_ ?_ ?_ ?_ ?_)
          · exact new_cells _ #[.string (bs (cleanL y))] _ _ (by simp)
          · intro u hu; simp at hu; subst hu; rfl
          · unfold maxLen; omega
          · omega
          · simp; omega
          intro v' w2 hown2 hgrow _
          have HB2 := Lib.hid ((HKR.out.trans (kept_alloc wr _)).trans' (grown_below (hown.alloc _) hgrow (by simp; omega)))
          rw [← strCells_snoc] at hown2
          have HO := Lib.hid hown2
          clear hown2 hgrow hown
          go_wp2_with fail
          go_roundw
          case rel => exact ⟨t.length + 1, t.length + 1, xs ++ [cleanL y], by omega, by go_num, by go_num, by omega, by simp; omega, by simpa using HO.out, HST.out, HB2.out⟩
          case measure => simp [intOf]
        · have hx := HS.out.done (by omega)
          have HX := Lib.hid hx
          have HOK : Hid (wr.ownsRow w1.heap.size 9 1 u7 xs.length (strCells xs)) := HOWN.out
          have HR2 := Lib.hid (HR.out.kept HKR.out)
          have HK2 := Lib.hid (HK.out.trans HKR.out)
          clear hx HS HR HK
          obtain ⟨av, cv, rfl, q1, q2, q3⟩ := own_cap HOK.out
          have hxs : xs.length = t.count 44 + 1 := by rw [HX.out]; simp [splitC_length]
          have HXS := Lib.hid hxs
          clear hxs
          have H3 := Lib.hid q3
          clear q3 HOK HOWN
          have HA := Lib.hid (fun w => barred_any p true w (by omega))
          have HB := Lib.hid (fun w => barred_any t false w (by omega))
          have cR0 := HR2.out.cell 0 _ rfl
          have fR0 := HR2.out.free 0
          have cR1 := HR2.out.cell 1 _ rfl
          have fR1 := HR2.out.free 1
          have cR2 := HR2.out.cell 2 _ rfl
          have fR2 := HR2.out.free 2
          have cR3 := HR2.out.cell 3 _ rfl
          have fR3 := HR2.out.free 3
          have hzR := HR2.out.lt
          by_cases hc : 2 < t.count 44
          · have HE : Hid (restR p t = (5, zero4)) := by show _ = _; unfold restR; rw [if_pos (.inl hc)]
            have hgt : 3 < xs.length := by have := HXS.out; omega
            go_wp2_with fail
            refine bodyPost_ret (v := .tuple #[persV [] [] [] [], .int .i64 5]) (by simp [results, Tryz.results16, go_sem, cR0, cR1, cR2, cR3, fR0, fR1, fR2, fR3, hzR]) rfl ⟨by rw [HE.out]; first | done | rfl, ?_⟩
            exact kept_set (kept_set (kept_set (kept_set (HK2.out) _ _ _ (Nat.le_refl _)) _ _ _ (Nat.le_refl _)) _ _ _ (Nat.le_refl _)) _ _ _ (Nat.le_refl _)
          have hle : xs.length ≤ 3 := by have := HXS.out; omega
          cases ha1 : (p : Bs).any (inSet setC)
          case true =>
            have HE : Hid (restR p t = (5, zero4)) := by show _ = _; unfold restR; rw [if_pos (.inr (.inl ha1))]
            have HA1 : Hid (∀ w, Calls Tryz.prog 51 #[.string (bs p), .bool true] w fun e w' => e = .returned (.bool true) ∧ w = w') := by intro w; have := HA.out w; rw [show setOf true = setC from rfl, ha1] at this; exact this
            clear ha1 HA
            go_wp2_with fail
            refine (HA1.out _).mono ?_
            rintro e w' ⟨rfl, rfl⟩
            go_wp2_with fail
            refine bodyPost_ret (v := .tuple #[persV [] [] [] [], .int .i64 5]) (by simp [results, Tryz.results16, go_sem, cR0, cR1, cR2, cR3, fR0, fR1, fR2, fR3, hzR]) rfl ⟨by rw [HE.out]; first | done | rfl, ?_⟩
            exact kept_set (kept_set (kept_set (kept_set (HK2.out) _ _ _ (Nat.le_refl _)) _ _ _ (Nat.le_refl _)) _ _ _ (Nat.le_refl _)) _ _ _ (Nat.le_refl _)
          have HA1 : Hid (∀ w, Calls Tryz.prog 51 #[.string (bs p), .bool true] w fun e w' => e = .returned (.bool false) ∧ w = w') := by intro w; have := HA.out w; rw [show setOf true = setC from rfl, ha1] at this; exact this
          cases ha2 : t.any (inSet setN)
          case true =>
            have HE : Hid (restR p t = (5, zero4)) := by show _ = _; unfold restR; rw [if_pos (.inr (.inr ha2))]
            have HB1 : Hid (∀ w, Calls Tryz.prog 51 #[.string (bs t), .bool false] w fun e w' => e = .returned (.bool true) ∧ w = w') := by intro w; have := HB.out w; rw [show setOf false = setN from rfl, ha2] at this; exact this
            clear ha1 ha2 HA HB
            go_wp2_with fail
            refine (HA1.out _).mono ?_
            rintro e w' ⟨rfl, rfl⟩
            go_wp2_with fail
            refine (HB1.out _).mono ?_
            rintro e w' ⟨rfl, rfl⟩
            go_wp2_with fail
            refine bodyPost_ret (v := .tuple #[persV [] [] [] [], .int .i64 5]) (by simp [results, Tryz.results16, go_sem, cR0, cR1, cR2, cR3, fR0, fR1, fR2, fR3, hzR]) rfl ⟨by rw [HE.out]; first | done | rfl, ?_⟩
            exact kept_set (kept_set (kept_set (kept_set (HK2.out) _ _ _ (Nat.le_refl _)) _ _ _ (Nat.le_refl _)) _ _ _ (Nat.le_refl _)) _ _ _ (Nat.le_refl _)
          have HB1 : Hid (∀ w, Calls Tryz.prog 51 #[.string (bs t), .bool false] w fun e w' => e = .returned (.bool false) ∧ w = w') := by intro w; have := HB.out w; rw [show setOf false = setN from rfl, ha2] at this; exact this
          have hnb : ¬ badP p t := by unfold badP; rw [ha1, ha2]; simp; omega
          have he2 : restR p t = if (fieldsP t).1 = [] then (8, zero4) else (0, ((fieldsP t).1, (fieldsP t).2.1, p, (fieldsP t).2.2)) := by unfold restR; rw [if_neg hnb]
          clear hnb ha1 ha2 HA HB
          rcases split_three t (by omega) with ⟨a, hsp⟩ | ⟨a, b, hsp⟩ | ⟨a, b, c, hsp⟩
          · rw [fields1 t a hsp] at he2
            have hx := HX.out
            rw [hsp] at hx
            simp only [List.map_cons, List.map_nil] at hx
            subst hx
            obtain ⟨g, rfl, _, hgl, hcell⟩ := H3.out (by simp)
            have cS0 := hcell 0 (.string (bs (cleanL a))) rfl
            clear hcell H3 HX hsp HXS hle
            generalize cleanL a = a' at *
            simp only [List.length_cons, List.length_nil, Nat.zero_add, Nat.reduceAdd] at *
            by_cases hf : a' = []
            · subst hf
              have HE : Hid (restR p t = (8, zero4)) := by show _ = _; rw [he2]; rfl
              clear he2
              go_wp2_with fail
              refine (HA1.out _).mono ?_
              rintro e w' ⟨rfl, rfl⟩
              go_wp2_with fail
              refine (HB1.out _).mono ?_
              rintro e w' ⟨rfl, rfl⟩
              go_wp2_with fail
              refine bodyPost_ret (v := .tuple #[persV [] [] [] [], .int .i64 8]) (by simp [results, Tryz.results16, go_sem, cR0, cR1, cR2, cR3, fR0, fR1, fR2, fR3, hzR]) rfl ⟨by rw [HE.out]; first | done | rfl, ?_⟩
              have HKX := HK2.out
              have hw1 : w.heap.size ≤ w.heap.size := Nat.le_refl _
              exact (kept_set (kept_set (kept_set (kept_set (HKX) _ _ _ hw1) _ _ _ hw1) _ _ _ hw1) _ _ _ hw1).trans (kept_alloc _ _)
            · have hfe : a'.isEmpty = false := by simpa using hf
              have HE : Hid (restR p t = (0, (a', [], p, []))) := by show _ = _; rw [he2, if_neg hf]
              clear he2
              go_wp2_with fail
              refine (HA1.out _).mono ?_
              rintro e w' ⟨rfl, rfl⟩
              go_wp2_with fail
              refine (HB1.out _).mono ?_
              rintro e w' ⟨rfl, rfl⟩
              go_wp2_with fail
              refine bodyPost_ret (v := .tuple #[persV a' [] p [], .int .i64 0]) (by simp [results, Tryz.results16, go_sem, cR0, cR1, cR2, cR3, fR0, fR1, fR2, fR3, hzR]) rfl ⟨by rw [HE.out]; first | done | rfl, ?_⟩
              have HKX := HK2.out
              have hw1 : w.heap.size ≤ w.heap.size := Nat.le_refl _
              exact (kept_set (kept_set (kept_set (kept_set (HKX) _ _ _ hw1) _ _ _ hw1) _ _ _ hw1) _ _ _ hw1).trans (kept_alloc _ _)
          · rw [fields2 t a b hsp] at he2
            have hx := HX.out
            rw [hsp] at hx
            simp only [List.map_cons, List.map_nil] at hx
            subst hx
            obtain ⟨g, rfl, _, hgl, hcell⟩ := H3.out (by simp)
            have cS0 := hcell 0 (.string (bs (cleanL a))) rfl
            have cS1 := hcell 1 (.string (bs (cleanL b))) rfl
            clear hcell H3 HX hsp HXS hle
            generalize cleanL a = a' at *
            generalize cleanL b = b' at *
            simp only [List.length_cons, List.length_nil, Nat.zero_add, Nat.reduceAdd] at *
            by_cases hf : a' = []
            · subst hf
              have HE : Hid (restR p t = (8, zero4)) := by show _ = _; rw [he2]; rfl
              clear he2
              go_wp2_with fail
              refine (HA1.out _).mono ?_
              rintro e w' ⟨rfl, rfl⟩
              go_wp2_with fail
              refine (HB1.out _).mono ?_
              rintro e w' ⟨rfl, rfl⟩
              go_wp2_with fail
              refine bodyPost_ret (v := .tuple #[persV [] [] [] [], .int .i64 8]) (by simp [results, Tryz.results16, go_sem, cR0, cR1, cR2, cR3, fR0, fR1, fR2, fR3, hzR]) rfl ⟨by rw [HE.out]; first | done | rfl, ?_⟩
              have HKX := HK2.out
              have hw1 : w.heap.size ≤ w.heap.size := Nat.le_refl _
              exact (kept_set (kept_set (kept_set (kept_set (HKX) _ _ _ hw1) _ _ _ hw1) _ _ _ hw1) _ _ _ hw1).trans (kept_alloc _ _)
            · have hfe : a'.isEmpty = false := by simpa using hf
              have HE : Hid (restR p t = (0, (a', b', p, []))) := by show _ = _; rw [he2, if_neg hf]
              clear he2
              go_wp2_with fail
              refine (HA1.out _).mono ?_
              rintro e w' ⟨rfl, rfl⟩
              go_wp2_with fail
              refine (HB1.out _).mono ?_
              rintro e w' ⟨rfl, rfl⟩
              go_wp2_with fail
              refine bodyPost_ret (v := .tuple #[persV a' b' p [], .int .i64 0]) (by simp [results, Tryz.results16, go_sem, cR0, cR1, cR2, cR3, fR0, fR1, fR2, fR3, hzR]) rfl ⟨by rw [HE.out]; first | done | rfl, ?_⟩
              have HKX := HK2.out
              have hw1 : w.heap.size ≤ w.heap.size := Nat.le_refl _
              exact (kept_set (kept_set (kept_set (kept_set (HKX) _ _ _ hw1) _ _ _ hw1) _ _ _ hw1) _ _ _ hw1).trans (kept_alloc _ _)
          · rw [fields3 t a b c hsp] at he2
            have hx := HX.out
            rw [hsp] at hx
            simp only [List.map_cons, List.map_nil] at hx
            subst hx
            obtain ⟨g, rfl, _, hgl, hcell⟩ := H3.out (by simp)
            have cS0 := hcell 0 (.string (bs (cleanL a))) rfl
            have cS1 := hcell 1 (.string (bs (cleanL b))) rfl
            have cS2 := hcell 2 (.string (bs (cleanL c))) rfl
            clear hcell H3 HX hsp HXS hle
            generalize cleanL a = a' at *
            generalize cleanL b = b' at *
            generalize cleanL c = c' at *
            simp only [List.length_cons, List.length_nil, Nat.zero_add, Nat.reduceAdd] at *
            by_cases hf : a' = []
            · subst hf
              have HE : Hid (restR p t = (8, zero4)) := by show _ = _; rw [he2]; rfl
              clear he2
              go_wp2_with fail
              refine (HA1.out _).mono ?_
              rintro e w' ⟨rfl, rfl⟩
              go_wp2_with fail
              refine (HB1.out _).mono ?_
              rintro e w' ⟨rfl, rfl⟩
              go_wp2_with fail
              refine bodyPost_ret (v := .tuple #[persV [] [] [] [], .int .i64 8]) (by simp [results, Tryz.results16, go_sem, cR0, cR1, cR2, cR3, fR0, fR1, fR2, fR3, hzR]) rfl ⟨by rw [HE.out]; first | done | rfl, ?_⟩
              have HKX := HK2.out
              have hw1 : w.heap.size ≤ w.heap.size := Nat.le_refl _
              exact (kept_set (kept_set (kept_set (kept_set (HKX) _ _ _ hw1) _ _ _ hw1) _ _ _ hw1) _ _ _ hw1).trans (kept_alloc _ _)
            · have hfe : a'.isEmpty = false := by simpa using hf
              have HE : Hid (restR p t = (0, (a', c', p, b'))) := by show _ = _; rw [he2, if_neg hf]
              clear he2
              go_wp2_with fail
              refine (HA1.out _).mono ?_
              rintro e w' ⟨rfl, rfl⟩
              go_wp2_with fail
              refine (HB1.out _).mono ?_
              rintro e w' ⟨rfl, rfl⟩
              go_wp2_with fail
              refine bodyPost_ret (v := .tuple #[persV a' c' p b', .int .i64 0]) (by simp [results, Tryz.results16, go_sem, cR0, cR1, cR2, cR3, fR0, fR1, fR2, fR3, hzR]) rfl ⟨by rw [HE.out]; first | done | rfl, ?_⟩
              have HKX := HK2.out
              have hw1 : w.heap.size ≤ w.heap.size := Nat.le_refl _
              exact (kept_set (kept_set (kept_set (kept_set (HKX) _ _ _ hw1) _ _ _ hw1) _ _ _ hw1) _ _ _ hw1).trans (kept_alloc _ _)

end Go.Proofs.YteflhlbgbgamnaaGreatDoor

/- The reference's Parse answers what person.Parse answers. Conditions: the length of the text. -/
set_option linter.all false
namespace Go.Proofs.YteflhlbgbgamnaaGreatDoor
open Go.RowKit

set_option maxRecDepth 100000 in
set_option maxHeartbeats 800000 in
theorem rparse_noline (l : Bs) (w : World) (hs : l.length ≤ 1000000) (hl : lineB l = false) :
    Calls Tryz.prog 16 #[.string (bs l)] w fun e w' => e = .returned (.tuple #[persV [] [] [] [], .int .i64 17]) ∧ Kept w w' := by
  go_enter Tryz.func16, Tryz.ntmps16
  go_wp2_with fail
  refine (rline_any l _ (by omega)).mono ?_
  rintro e w1 ⟨rfl, hk1⟩
  rw [hl]
  have HR := Lib.hid ((Blk.new w 32 #[.string (bs []), .string (bs []), .string (bs []), .string (bs [])]).kept hk1)
  have HK := Lib.hid ((kept_alloc w _).trans hk1)
  clear hk1
  have cR0 := HR.out.cell 0 _ rfl
  have fR0 := HR.out.free 0
  have cR1 := HR.out.cell 1 _ rfl
  have fR1 := HR.out.free 1
  have cR2 := HR.out.cell 2 _ rfl
  have fR2 := HR.out.free 2
  have cR3 := HR.out.cell 3 _ rfl
  have fR3 := HR.out.free 3
  have hzR := HR.out.lt
  go_wp2_with fail
  refine bodyPost_ret (v := .tuple #[persV [] [] [] [], .int .i64 17]) (by simp [results, Tryz.results16, go_sem, cR0, cR1, cR2, cR3, fR0, fR1, fR2, fR3, hzR]) rfl ⟨rfl, ?_⟩
  exact kept_set (kept_set (kept_set (kept_set HK.out _ _ _ (Nat.le_refl _)) _ _ _ (Nat.le_refl _)) _ _ _ (Nat.le_refl _)) _ _ _ (Nat.le_refl _)

theorem rparse_any (l : Bs) (w : World) (hs : l.length ≤ 1000000) :
    Calls Tryz.prog 16 #[.string (bs l)] w (ParsePost l w) := by
  cases hl : lineB l
  · exact (rparse_noline l w hs hl).mono fun e w' ⟨he, hk⟩ => ParsePost.mk (q := zero4) (by unfold parseR; rw [hl]; rfl) he hk
  have hcl := cleanL_le l
  have e0 : parseR l = (match restP (cleanL l) with | none => (5, zero4) | some (p, t) => restR p t) := by unfold parseR; rw [hl]; rfl
  by_cases hb : ∃ r, cleanL l = 123 :: r
  · obtain ⟨r, hr⟩ := hb
    have hrl : r.length ≤ 1000001 := by rw [hr] at hcl; simp at hcl; omega
    by_cases hbr : before 125 r < r.length
    · have e1 : parseR l = restR (cleanL (r.take (before 125 r))) (r.drop (before 125 r + 1)) := by
        rw [e0, hr]; simp only [restP, if_true]; rw [if_pos hbr]
      have hpl : (cleanL (r.take (before 125 r))).length ≤ 1000010 := by have := cleanL_le (r.take (before 125 r)); simp at this; omega
      have htl : (r.drop (before 125 r + 1)).length ≤ 1000001 := by simp; omega
      exact (rparse_b l w hs hl r hr hrl hbr _ _ rfl rfl hpl htl).mono fun e w' ⟨he, hk⟩ => ParsePost.mk (by rw [e1]) he hk
    · exact (rparse_open l w hs hl r hr hrl hbr).mono fun e w' ⟨he, hk⟩ => ParsePost.mk (q := zero4) (by rw [e0, hr]; simp only [restP, if_true]; rw [if_neg hbr]) he hk
  · obtain ⟨t, ht⟩ : ∃ t, cleanL l = t := ⟨_, rfl⟩
    have hnb : ∀ r, t ≠ 123 :: r := fun r q => hb ⟨r, by rw [ht, q]⟩
    have e1 : parseR l = restR [] t := by
      rw [e0, ht]
      cases t with
      | nil => rfl
      | cons x r => simp only [restP]; rw [if_neg (fun q => hnb r (by rw [q]))]
    have htl : t.length ≤ 1000001 := by rw [ht] at hcl; omega
    exact (rparse_n l w hs hl t ht hnb htl).mono fun e w' ⟨he, hk⟩ => ParsePost.mk (by rw [e1]) he hk
end Go.Proofs.YteflhlbgbgamnaaGreatDoor
