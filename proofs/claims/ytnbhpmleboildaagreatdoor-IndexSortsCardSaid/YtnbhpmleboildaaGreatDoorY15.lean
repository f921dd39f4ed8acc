/- The reference's Append. Conditions: lengths. -/
import Derived.Test.YtnbhpmleboildaaGreatDoorY05
import Derived.Test.YtnbhpmleboildaaGreatDoorY04
import Derived.Test.YtnbhpmleboildaaGreatDoorY14
import Derived.Test.YtnbhpmleboildaaGreatDoorY07
import Derived.Test.YtnbhpmleboildaaGreatDoorY06
import Derived.Laws.Cover4
import Derived.Lib.Bytealg

set_option linter.all false
namespace Go.Proofs.YtnbhpmleboildaaGreatDoor
open Go.RowKit

theorem dec_valid (s : ByteArray) (i : Nat) : 0 ≤ (dec s i).1 ∧ (dec s i).1 ≤ 1114111 ∧ ((dec s i).1 < 55296 ∨ 57343 < (dec s i).1) := by
  have h0 := byteAt_lo s i
  have m0 : ∀ k l h, ¬ moreOf s k l h < 0 → 128 ≤ l → l - 128 ≤ moreOf s k l h ∧ moreOf s k l h ≤ h - 128 := by
    intro k l h q hl
    obtain ⟨_, h1, h2, h3⟩ := more_yes (s := s) (i := k) (l := l) (h := h) (by omega)
    omega
  unfold dec
  split
  · simp only; omega
  split
  · split
    · rename_i q
      have := m0 (i + 1) 128 191 (by omega) (by omega)
      simp only; omega
    · simp only; omega
  split
  · rename_i hb
    unfold three
    split
    · simp only; omega
    · rename_i q
      simp only [not_or] at q
      have a := m0 (i + 1) (low3 (byteAt s i)) (high3 (byteAt s i)) q.1 (by unfold low3; split <;> omega)
      have b := m0 (i + 2) 128 191 q.2 (by omega)
      have c : high3 (byteAt s i) ≤ 191 ∧ (byteAt s i = 237 → high3 (byteAt s i) = 159) := by unfold high3; split <;> omega
      have d : 128 ≤ low3 (byteAt s i) := by unfold low3; split <;> omega
      simp only; omega
  split
  · rename_i hb
    unfold four
    split
    · simp only; omega
    · rename_i q
      simp only [not_or] at q
      have a := m0 (i + 1) (low4 (byteAt s i)) (high4 (byteAt s i)) q.1 (by unfold low4; split <;> omega)
      have b := m0 (i + 2) 128 191 q.2.1 (by omega)
      have b2 := m0 (i + 3) 128 191 q.2.2 (by omega)
      have c : high4 (byteAt s i) ≤ 191 ∧ (byteAt s i = 244 → high4 (byteAt s i) = 143) := by unfold high4; split <;> omega
      have d : 128 ≤ low4 (byteAt s i) ∧ (byteAt s i = 240 → low4 (byteAt s i) = 144) := by unfold low4; split <;> omega
      simp only; omega
  · simp only; omega

end Go.Proofs.YtnbhpmleboildaaGreatDoor

/- rank, key and Key of collate. Conditions: lengths. -/
set_option linter.all false
namespace Go.Proofs.YtnbhpmleboildaaGreatDoor
open Go.RowKit

set_option maxRecDepth 100000 in
theorem ptsF_range (l : Bs) : ∀ (n k : Nat), l.length - k ≤ n → ∀ y ∈ ptsF l k, 0 ≤ y ∧ y ≤ 1114111 ∧ (y < 55296 ∨ 57343 < y)
  | 0, k, hk, y, hy => by rw [ptsF_out l k (by omega)] at hy; cases hy
  | n + 1, k, hk, y, hy => by
    by_cases q : k < l.length
    · rw [ptsF_in l k q] at hy
      rcases List.mem_cons.1 hy with rfl | hy
      · exact dec_valid (bs l) k
      · have hb := dec_bounds (bs l) k (by simpa using q)
        exact ptsF_range l n _ (by omega) y hy
    · rw [ptsF_out l k q] at hy; cases hy
set_option maxRecDepth 100000 in
theorem pts_range (l : Bs) : ∀ y ∈ ptsL l, 0 ≤ y ∧ y ≤ 1114111 ∧ (y < 55296 ∨ 57343 < y) := ptsF_range l _ 0 (Nat.le_refl _)
set_option maxRecDepth 100000 in
theorem val_range {c : ColT} {x : Int} {ys : List Int} (h : valI c x = some ys) : ∀ y ∈ ys, 0 ≤ y ∧ y ≤ 1114111 ∧ (y < 55296 ∨ 57343 < y) := by
  unfold valI at h
  cases hf : c.ranks.find? (fun p => ptsL p.1 == [x]) with
  | none => rw [hf] at h; cases h
  | some p => rw [hf] at h; cases h; exact pts_range p.2
theorem val_len {c : ColT} (hs : SmallC c) {x : Int} {ys : List Int} (h : valI c x = some ys) : ys.length ≤ 1000 := by
  unfold valI at h
  cases hf : c.ranks.find? (fun p => ptsL p.1 == [x]) with
  | none => rw [hf] at h; cases h
  | some p =>
    rw [hf] at h; cases h
    have := (hs.2.2.2.2 p (List.mem_of_find?_eq_some hf)).2
    have h2 := ptsL_len p.2
    simp only; omega
set_option maxRecDepth 100000 in
set_option maxHeartbeats 1600000 in
theorem rank_any (v : Value) (c : ColT) (x : Int) (w : World) (hv : TabR w v c) (hs : SmallC c) (hx0 : 0 ≤ x) (hx1 : x ≤ 1114111) :
    Calls Tryz.prog 46 #[v, .int .i64 x] w fun e w' => e = .returned (.int .i64 (rankI c x)) ∧ Kept w w' := by
  obtain ⟨m1, m2, m3, es, rfl, h1, h2, h3, h4⟩ := hv
  have hn := hs.2.1
  have HR : Hid (rankI c x = if x = 32 then 0 else match grpI c x with
    | some i => (i : Int) + 1
    | none => (c.order.length : Int) + 1 + x) := rfl
  have hlen : ∀ i, grpI c x = some i → i < c.order.length := fun i h => by
    unfold grpI at h
    exact (List.findIdx?_eq_some_iff_getElem.1 h).1
  have lk := lookV_ok (P := Tryz.prog) Tryz.underlying68 Tryz.underlying3 (w.alloc (.cells #[.map (some m1), .map (some m2), .map (some m3), .int .i64 c.order.length] 70)) m3 (grpV c) x (.int .i64 0) (Tryz.zeroInt _) (h4.kept (kept_alloc _ _))
  rw [grpV_is] at lk
  generalize rankI c x = R at *
  generalize c.order.length = n at *
  clear h1 h2 h3 h4
  by_cases h32 : x = 32
  · rw [if_pos h32] at HR
    subst h32
    clear lk
    go_enter Tryz.func46, Tryz.ntmps46
    go_wp2_with fail
    go_ret
    exact ⟨ret_int HR.out.symm, kept_alloc _ _⟩
  rw [if_neg h32] at HR
  have h32' : (x == 32) = false := by simpa using h32
  cases hgi : grpI c x with
  | none =>
    rw [hgi] at HR lk
    simp only [Option.map_none, Option.getD_none, Option.isSome_none] at lk
    have HR2 : Hid (R = (n : Int) + 1 + x) := HR
    clear HR hgi hlen
    go_enter Tryz.func46, Tryz.ntmps46
    go_wp2_with fail
    go_ret
    exact ⟨ret_int HR2.out.symm, kept_alloc _ _⟩
  | some i =>
    have hi := hlen i hgi
    rw [hgi] at HR lk
    simp only [Option.map_some, Option.getD_some, Option.isSome_some] at lk
    have HR2 : Hid (R = (i : Int) + 1) := HR
    clear HR hgi hlen
    go_enter Tryz.func46, Tryz.ntmps46
    go_wp2_with fail
    go_ret
    exact ⟨ret_int HR2.out.symm, kept_alloc _ _⟩
theorem keyI_at (c : ColT) (s : Bs) (k : Nat) (h : k < s.length) : (ptsF s k).flatMap (keyI1 c) = keyI1 c (dec (bs s) k).1 ++ (ptsF s (k + (dec (bs s) k).2.toNat)).flatMap (keyI1 c) := by
  rw [ptsF_in s k h, List.flatMap_cons]
def RowQ (xs : List Int) (w : World) (e : Ending) (w' : World) : Prop := ∃ v, e = .returned v ∧ w'.ownsRow w.heap.size 3 1 v xs.length (intC xs) ∧ Kept w w'
set_option maxRecDepth 100000 in
set_option maxHeartbeats 6400000 in
theorem key_row (v : Value) (c : ColT) (s : Bs) (w : World) (hv : TabR w v c) (hs : SmallC c) (hl : s.length ≤ 100000) :
    Calls Tryz.prog 24 #[v, .string (bs s)] w (RowQ (keyI c s) w) := by
  obtain ⟨i0, hi, hz0, hz1, hz2⟩ := info_parts Tryz.infoInt
  have HTR := Lib.hid hv
  have HRK := Lib.hid (fun w' x (h : Kept w w') h0 h1 => rank_any v c x w' (hv.kept h) hs h0 h1)
  obtain ⟨m1, m2, m3, es, rfl, h1, h2, h3, h4⟩ := hv
  have HM1 := Lib.hid h1
  have HM2 := Lib.hid h2
  have HVR := Lib.hid h3
  have HVL : Hid (∀ x ys, valI c x = some ys → ys.length ≤ 1000 ∧ ∀ y ∈ ys, 0 ≤ y ∧ y ≤ 1114111 ∧ (y < 55296 ∨ 57343 < y)) := fun x ys h => ⟨val_len hs h, val_range h⟩
  clear h1 h2 h3 h4
  have H0 : Hid (keyI c s = [] ++ (ptsF s 0).flatMap (keyI1 c)) := by show _ = _; rw [ptsF_zero]; rfl
  have HB0 := Lib.hid (Blk.new w 70 #[.map (some m1), .map (some m2), .map (some m3), .int .i64 c.order.length])
  have HK0 := Lib.hid (kept_alloc w (.cells #[.map (some m1), .map (some m2), .map (some m3), .int .i64 c.order.length] 70))
  unfold RowQ
  go_enter Tryz.func24, Tryz.ntmps24
  go_wp2_with fail
  go_loopw [5] (fun v wr => ∃ (pos : Nat) (xs : List Int), pos ≤ s.length ∧ xs.length ≤ 1000 * pos ∧ wr.heap[w.heap.size + 1]? = some (.stringIter (bs s) pos) ∧ wr.ownsRow (w.heap.size + 2) 3 1 v xs.length (intC xs) ∧ Hid (keyI c s = xs ++ (ptsF s pos).flatMap (keyI1 c)) ∧ Hid (Blk wr w.heap.size 70 #[.map (some m1), .map (some m2), .map (some m3), .int .i64 c.order.length]) ∧ Hid (Kept w wr)) (fun _ wr => s.length - wr.iterPos (w.heap.size + 1))
  case atStart => exact ⟨0, [], Nat.zero_le _, Nat.zero_le _, by have h := World.iter_heap (w.alloc (.cells #[.map (some m1), .map (some m2), .map (some m3), .int .i64 c.order.length] 70)) (bs s) 0; simpa using h, World.ownsRow_nil _ _ _ _, H0.out, HB0.out.alloc _, HK0.out.trans (kept_alloc _ _)⟩
  case round =>
    obtain ⟨pos, xs, hp, hxl, hit, hown, HA, HB, HK⟩ := hrel
    have hip : wr.iterPos (w.heap.size + 1) = pos := by simp [World.iterPos, hit]
    have hsz : w.heap.size + 1 < wr.heap.size := by
      rcases Nat.lt_or_ge (w.heap.size + 1) wr.heap.size with q | q
      · exact q
      · rw [Array.getElem?_eq_none q] at hit; cases hit
    by_cases hlt : pos < s.length
    · have nx := fun ty => run_next_k (P := Tryz.prog) wr (w.heap.size + 1) (bs s) pos ty hit hlt
      have hb := dec_bounds (bs s) pos hlt
      have hdv := dec_valid (bs s) pos
      have HP := Lib.hid (keyI_at c s pos hlt)
      have hitW : (wr.iterAt (w.heap.size + 1) (bs s) (pos + (dec (bs s) pos).2.toNat)).heap[w.heap.size + 1]? = some (.stringIter (bs s) (pos + (dec (bs s) pos).2.toNat)) := Lib.iterAt_heap wr (w.heap.size + 1) (bs s) pos _ hit
      have hkW : Kept w (wr.iterAt (w.heap.size + 1) (bs s) (pos + (dec (bs s) pos).2.toNat)) := Lib.below_iterAt HK.out (by omega) (bs s) _
      have hoW := own_iterAtC hown hit (bs s) (pos + (dec (bs s) pos).2.toNat)
      have hbW := HB.out.onl (only_iterAt wr (w.heap.size + 1) (bs s) (pos + (dec (bs s) pos).2.toNat)) (by omega)
      have hzW : (wr.iterAt (w.heap.size + 1) (bs s) (pos + (dec (bs s) pos).2.toNat)).heap.size = wr.heap.size := Lib.iterAt_size ..
      obtain ⟨x, n, hd⟩ : ∃ c n, dec (bs s) pos = (c, n) := ⟨(dec (bs s) pos).1, (dec (bs s) pos).2, rfl⟩
      rw [hd] at nx hb hdv HP hitW hkW hoW hbW hzW
      simp only at nx hb hdv HP hitW hkW hoW hbW hzW
      obtain ⟨b1, b2, b3, b4, b5⟩ := hb
      simp only [bs_size] at b5
      obtain ⟨hx0, hx1, _⟩ := hdv
      obtain ⟨W, HW⟩ : ∃ W, Hid (wr.iterAt (w.heap.size + 1) (bs s) (pos + n.toNat) = W) := ⟨_, rfl⟩
      simp only [HW.out] at nx hitW hkW hoW hbW hzW
      have HITW := Lib.hid hitW
      have HKW := Lib.hid hkW
      have HOW := Lib.hid hoW
      have HBW := Lib.hid hbW
      have HIP := Lib.hid hip
      have hszW : w.heap.size + 1 < W.heap.size := by omega
      have t0 : W.cell? ⟨w.heap.size, 0, none⟩ = some (.map (some m1)) := hbW.cell 0 _ rfl
      have t1 : W.cell? ⟨w.heap.size, 1, none⟩ = some (.map (some m2)) := hbW.cell 1 _ rfl
      have t2 : W.cell? ⟨w.heap.size, 2, none⟩ = some (.map (some m3)) := hbW.cell 2 _ rfl
      have t3 : W.cell? ⟨w.heap.size, 3, none⟩ = some (.int .i64 c.order.length) := hbW.cell 3 _ rfl
      have lk1 := lookV (P := Tryz.prog) Tryz.underlying66 Tryz.underlying3 W m1 (setV (ptsL c.ignore)) x (.bool false) (Tryz.zeroBool W) (HM1.out.kept hkW)
      rw [setV_has] at lk1
      have HK1 : Hid (keyI1 c x = if (ptsL c.ignore).contains x = true then [] else match valI c x with
        | some v => v.map (rankI c)
        | none => [rankI c x]) := rfl
      clear hitW hkW hoW hbW hzW hd hip hit hown HK HB
      cases hct : (ptsL c.ignore).contains x
      case true =>
        rw [hct] at lk1 HK1
        rw [if_pos rfl] at HK1
        have hown := HOW.out
        go_wp2_with fail
        go_roundw
        case rel => exact ⟨pos + n.toNat, xs, by omega, by omega, HITW.out, hown, by show _ = _; rw [HA.out, HP.out, HK1.out]; simp, HBW.out, HKW.out⟩
        case measure => rw [HIP.out]; have := HITW.out; simp [World.iterPos, this]; omega
      rw [hct] at lk1 HK1
      rw [if_neg (by simp)] at HK1
      have lk2 := lookV_ok (P := Tryz.prog) Tryz.underlying67 Tryz.underlying3 W m2 es x (.slice none 0 0) (Tryz.zeroInts W) (HM2.out.kept HKW.out)
      have HVX := Lib.hid (HVR.out x)
      cases hval : valI c x with
      | none =>
        rw [hval] at HVX HK1
        have hgn : getV es x = none := HVX.out
        rw [hgn] at lk2
        simp only [Option.getD_none, Option.isSome_none] at lk2
        have HK2 : Hid (keyI1 c x = [rankI c x]) := HK1
        have HRX := Lib.hid (fun w' h => HRK.out w' x h hx0 hx1)
        generalize rankI c x = r at *
        clear hval hgn HK1
        go_wp2_with fail
        refine (HRX.out _ HKW.out).mono ?_
        rintro e w3 ⟨rfl, hk3⟩
        have HK3 := Lib.hid (HKW.out.trans hk3)
        have HB3 := Lib.hid (HBW.out.kept hk3)
        have HIT3 : Hid (w3.heap[w.heap.size + 1]? = some (.stringIter (bs s) (pos + n.toNat))) := by
          show _ = _
          rw [hk3.block _ hszW]; exact HITW.out
        have hown := own_kept HOW.out hk3
        have hsz3 : W.heap.size ≤ w3.heap.size := hk3.size
        clear hk3 t0 t1 t2 t3
        go_wp2_with (at_builtin; refine wpList_append_own _ rfl _ _ 73 rfl (w.heap.size + 2) 3 i0 (.int .i64 0) 1 8 Tryz.underlying73 hi hz0 hz1 hz2 rfl (by decide) _ _ _ rfl (hown.alloc _) ⟨w3.heap.size, 0, none⟩ 1 1 [.int .i64 r] rfl rfl (new_cells _ #[.int .i64 r] _ _ (by simp)) (by intro u hu; simp at hu; subst hu; rfl) (by unfold maxLen; omega) (by omega) (by simp; omega) ?_; intro v' w4 hown2 hgrow2 _)
        have hb4 : Below (w.heap.size + 2) w3 w4 := ((Below.refl _ w3).alloc (by omega) _).trans (grown_below (hown.alloc _) hgrow2 (by simp; omega))
        have HK4 := Lib.hid (HK3.out.trans' (hb4.mono (by omega)))
        have HB4 : Hid (Blk w4 w.heap.size 70 #[.map (some m1), .map (some m2), .map (some m3), .int .i64 c.order.length]) := (hb4.block _ (by omega)).trans HB3.out
        have HIT4 : Hid (w4.heap[w.heap.size + 1]? = some (.stringIter (bs s) (pos + n.toNat))) := (hb4.block _ (by omega)).trans HIT3.out
        rw [← intC_snoc] at hown2
        have HO := Lib.hid hown2
        clear hown2 hgrow2 hown hb4
        go_wp2_with fail
        go_roundw
        case rel => exact ⟨pos + n.toNat, xs ++ [r], by omega, by simp; omega, HIT4.out, by simpa using HO.out, by show _ = _; rw [HA.out, HP.out, HK2.out]; simp, HB4.out, HK4.out⟩
        case measure => rw [HIP.out]; have := HIT4.out; simp [World.iterPos, this]; omega
      | some ys =>
        rw [hval] at HVX HK1
        have hgs : ∃ u, getV es x = some u ∧ Ints w u ys := HVX.out
        obtain ⟨u, hu, hiu⟩ := hgs
        rw [hu] at lk2
        simp only [Option.getD_some, Option.isSome_some] at lk2
        have HK2 : Hid (keyI1 c x = ys.map (rankI c)) := HK1
        obtain ⟨hyl, hyr⟩ := HVL.out x ys hval
        have HYR := Lib.hid hyr
        have HIU := Lib.hid hiu
        obtain ⟨au, cu, rfl, hcu⟩ := hiu.form
        have hown := HOW.out
        clear hval hu HK1 HVX hyr hiu
        go_wp2_with fail
        clear t0 t1 t2 t3
        go_loopw [5, 41] (fun v i wr2 => ∃ (j : Nat) (zs : List Int), j ≤ ys.length ∧ i = .int .i64 j ∧ zs.length = xs.length + j ∧ wr2.heap[w.heap.size + 1]? = some (.stringIter (bs s) (pos + n.toNat)) ∧ wr2.ownsRow (w.heap.size + 2) 3 1 v zs.length (intC zs) ∧ Hid (zs = xs ++ (ys.take j).map (rankI c)) ∧ Hid (Blk wr2 w.heap.size 70 #[.map (some m1), .map (some m2), .map (some m3), .int .i64 c.order.length]) ∧ Hid (Kept w wr2)) (fun _ i _ => ys.length - (intOf i).toNat)
        case atStart => exact ⟨0, xs, Nat.zero_le _, rfl, rfl, HITW.out, hown, by show _ = _; simp, HBW.out, HKW.out⟩
        case round =>
          clear hown HOW lk1 lk2 nx
          obtain ⟨j, zs, hj, rfl, hzl, hit2, hown, HZ, HB2, HK2'⟩ := hrel
          have hsz2 : w.heap.size + 1 < wr.heap.size := by
            rcases Nat.lt_or_ge (w.heap.size + 1) wr.heap.size with q | q
            · exact q
            · rw [Array.getElem?_eq_none q] at hit2; cases hit2
          have HIT2 := Lib.hid hit2
          clear hit2
          by_cases hlt2 : j < ys.length
          · obtain ⟨y, hy⟩ : ∃ y, ys[j]? = some y := ⟨_, List.getElem?_eq_getElem hlt2⟩
            obtain ⟨g, o, rfl, hg, d0⟩ := (HIU.out.kept HK2'.out).cell_of j y hy
            obtain ⟨hy0, hy1, _⟩ := HYR.out y (List.mem_of_getElem? hy)
            have HZ2 : Hid (zs ++ [rankI c y] = xs ++ (ys.take (j + 1)).map (rankI c)) := by
              show _ = _
              obtain ⟨hj', rfl⟩ := List.getElem?_eq_some_iff.1 hy
              rw [List.take_succ_eq_append_getElem hj', HZ.out, List.map_append, List.append_assoc]; rfl
            have HRX := Lib.hid (fun w' h => HRK.out w' y h hy0 hy1)
            generalize rankI c y = r at *
            have t0 : wr.cell? ⟨w.heap.size, 0, none⟩ = some (.map (some m1)) := HB2.out.cell 0 _ rfl
            have t1 : wr.cell? ⟨w.heap.size, 1, none⟩ = some (.map (some m2)) := HB2.out.cell 1 _ rfl
            have t2 : wr.cell? ⟨w.heap.size, 2, none⟩ = some (.map (some m3)) := HB2.out.cell 2 _ rfl
            have t3 : wr.cell? ⟨w.heap.size, 3, none⟩ = some (.int .i64 c.order.length) := HB2.out.cell 3 _ rfl
            have HOWN := Lib.hid hown
            clear hy hown
            go_wp2_with fail
            refine (HRX.out _ HK2'.out).mono ?_
            rintro e w3 ⟨rfl, hk3⟩
            have HK3 := Lib.hid (HK2'.out.trans hk3)
            have HB3 := Lib.hid (HB2.out.kept hk3)
            have HIT3 : Hid (w3.heap[w.heap.size + 1]? = some (.stringIter (bs s) (pos + n.toNat))) := by
              show _ = _
              rw [hk3.block _ hsz2]; exact HIT2.out
            have hown := own_kept HOWN.out hk3
            have hsz3 : wr.heap.size ≤ w3.heap.size := hk3.size
            clear hk3 t0 t1 t2 t3 d0 hg
            go_wp2_with (at_builtin; refine wpList_append_own _ rfl _ _ 73 rfl (w.heap.size + 2) 3 i0 (.int .i64 0) 1 8 Tryz.underlying73 hi hz0 hz1 hz2 rfl (by decide) _ _ _ rfl (hown.alloc _) ⟨w3.heap.size, 0, none⟩ 1 1 [.int .i64 r] rfl rfl (new_cells _ #[.int .i64 r] _ _ (by simp)) (by intro u hu; simp at hu; subst hu; rfl) (by unfold maxLen; omega) (by omega) (by simp; omega) ?_; intro v' w4 hown2 hgrow2 _)
            have hb4 : Below (w.heap.size + 2) w3 w4 := ((Below.refl _ w3).alloc (by omega) _).trans (grown_below (hown.alloc _) hgrow2 (by simp; omega))
            have HK4 := Lib.hid (HK3.out.trans' (hb4.mono (by omega)))
            have HB4 : Hid (Blk w4 w.heap.size 70 #[.map (some m1), .map (some m2), .map (some m3), .int .i64 c.order.length]) := (hb4.block _ (by omega)).trans HB3.out
            have HIT4 : Hid (w4.heap[w.heap.size + 1]? = some (.stringIter (bs s) (pos + n.toNat))) := (hb4.block _ (by omega)).trans HIT3.out
            rw [← intC_snoc] at hown2
            have HO := Lib.hid hown2
            clear hown2 hgrow2 hown hb4
            go_wp2_with fail
            go_roundw
            case rel => exact ⟨j + 1, zs ++ [r], by omega, by go_num, by simp; omega, HIT4.out, by simpa using HO.out, HZ2.out, HB4.out, HK4.out⟩
            case measure => simp [intOf]; omega
          · obtain rfl : j = ys.length := by omega
            have HZZ : Hid (zs = xs ++ keyI1 c x) := by
              show _ = _
              have h := HZ.out
              rw [List.take_of_length_le (Nat.le_refl _)] at h
              rw [h, HK2.out]
            have HOWN := Lib.hid hown
            clear hown
            go_wp2_with fail
            go_roundw
            case rel => exact ⟨pos + n.toNat, zs, by omega, by omega, HIT2.out, HOWN.out, by show _ = _; rw [HA.out, HP.out, HZZ.out]; simp, HB2.out, HK2'.out⟩
            case measure => rw [HIP.out]; have := HIT2.out; simp [World.iterPos, this]; omega
    · have nx := fun ty => run_next_k_end (P := Tryz.prog) wr (w.heap.size + 1) (bs s) pos ty hit hlt
      have HI := Lib.hid (own_mono hown (show w.heap.size ≤ w.heap.size + 2 by omega))
      have HL : Hid (keyI c s = xs) := by
        show _ = _
        rw [HA.out, ptsF_out s pos hlt]; simp
      clear hown
      go_wp2_with fail
      go_ret
      exact ⟨_, rfl, by rw [HL.out]; exact HI.out, HK.out⟩
theorem key_own (v : Value) (c : ColT) (s : Bs) (w : World) (hv : TabR w v c) (hs : SmallC c) (hl : s.length ≤ 100000) :
    Calls Tryz.prog 24 #[v, .string (bs s)] w (IntsQ (keyI c s) w) :=
  (key_row v c s w hv hs hl).mono fun _ _ ⟨v, h1, h2, h3⟩ => ⟨v, h1, Ints.own h2, fun g hg => (h2.lt g hg).1, h3⟩
theorem key_any (v : Value) (c : ColT) (s : Bs) (w : World) (hv : TabR w v c) (hs : SmallC c) (hl : s.length ≤ 100000) :
    Calls Tryz.prog 24 #[v, .string (bs s)] w (IntsP (keyI c s) w) :=
  (key_own v c s w hv hs hl).mono fun _ _ ⟨v, h1, h2, _, h3⟩ => ⟨v, h1, h2, h3⟩
end Go.Proofs.YtnbhpmleboildaaGreatDoor

/- Plain law: how texts compare under a collation is a total order. No condition. -/
set_option linter.all false
namespace Go.Proofs.YtnbhpmleboildaaGreatDoor
open Go.RowKit

theorem cmpI_self : ∀ x : List Int, cmpI x x = 0
  | [] => rfl
  | a :: x => by rw [cmpI, if_neg (by omega), if_neg (by omega), cmpI_self x]
theorem cmpI_neg : ∀ x y : List Int, cmpI y x = - cmpI x y
  | [], [] => rfl
  | [], b :: y => rfl
  | a :: x, [] => rfl
  | a :: x, b :: y => by
    rw [cmpI, cmpI]
    by_cases h : a < b
    · rw [if_neg (show ¬ b < a by omega), if_pos h, if_pos h]; rfl
    · by_cases h2 : b < a
      · rw [if_pos h2, if_neg h, if_pos h2]
      · rw [if_neg h2, if_neg h, if_neg h, if_neg h2, cmpI_neg x y]
theorem cmpI_zero : ∀ x y : List Int, cmpI x y = 0 → x = y
  | [], [], _ => rfl
  | [], b :: y, h => by cases h
  | a :: x, [], h => by cases h
  | a :: x, b :: y, h => by
    rw [cmpI] at h
    split at h
    · cases h
    split at h
    · cases h
    · rw [cmpI_zero x y h, show a = b from by omega]
theorem cmpI_trans : ∀ x y z : List Int, cmpI x y ≤ 0 → cmpI y z ≤ 0 → cmpI x z ≤ 0
  | [], _, [], _, _ => by simp [cmpI]
  | [], _, c :: z, _, _ => by simp [cmpI]
  | a :: x, [], _, h, _ => by simp [cmpI] at h
  | a :: x, b :: y, [], _, h => by simp [cmpI] at h
  | a :: x, b :: y, c :: z, h1, h2 => by
    rw [cmpI] at h1 h2 ⊢
    by_cases p1 : a < b
    · by_cases p2 : b < c
      · rw [if_pos (by omega)]; omega
      · rw [if_neg p2] at h2
        by_cases p3 : c < b
        · rw [if_pos p3] at h2; omega
        · rw [if_pos (by omega)]; omega
    · rw [if_neg p1] at h1
      by_cases p4 : b < a
      · rw [if_pos p4] at h1; omega
      · rw [if_neg p4] at h1
        by_cases p2 : b < c
        · rw [if_pos (by omega)]; omega
        · rw [if_neg p2] at h2
          by_cases p3 : c < b
          · rw [if_pos p3] at h2; omega
          · rw [if_neg p3] at h2
            rw [if_neg (by omega), if_neg (by omega)]
            exact cmpI_trans x y z h1 h2
theorem bytes_inj : ∀ a b : Bs, (a.map fun x => (x.toNat : Int)) = (b.map fun x => (x.toNat : Int)) → a = b
  | [], [], _ => rfl
  | [], b :: y, h => by cases h
  | a :: x, [], h => by cases h
  | a :: x, b :: y, h => by
    simp only [List.map_cons, List.cons.injEq] at h
    rw [bytes_inj x y h.2, UInt8.toNat_inj.1 (Int.ofNat.inj h.1)]
theorem cmpC_self (c : ColT) (a : Bs) : cmpC c a a = 0 := by unfold cmpC cmpB; rw [cmpI_self, if_neg (by simp), cmpI_self]
theorem cmpC_neg (c : ColT) (a b : Bs) : cmpC c b a = - cmpC c a b := by
  unfold cmpC cmpB
  rw [cmpI_neg (keyI c a) (keyI c b), cmpI_neg (a.map fun x => (x.toNat : Int)) (b.map fun x => (x.toNat : Int))]
  by_cases h : cmpI (keyI c a) (keyI c b) = 0
  · rw [if_neg (by omega), if_neg (by omega)]
  · rw [if_pos (by omega), if_pos (by omega)]
theorem cmpC_zero (c : ColT) (a b : Bs) : cmpC c a b = 0 ↔ a = b := by
  constructor
  · intro h
    unfold cmpC at h
    split at h
    · rename_i q; exact absurd h q
    · exact bytes_inj a b (cmpI_zero _ _ h)
  · rintro rfl; exact cmpC_self c a
theorem cmpC_trans (c : ColT) (a b d : Bs) (h1 : cmpC c a b ≤ 0) (h2 : cmpC c b d ≤ 0) : cmpC c a d ≤ 0 := by
  unfold cmpC at h1 h2 ⊢
  have t1 := cmpI_trans (keyI c a) (keyI c b) (keyI c d)
  have t2 := cmpI_trans (a.map fun x => (x.toNat : Int)) (b.map fun x => (x.toNat : Int)) (d.map fun x => (x.toNat : Int))
  by_cases k1 : cmpI (keyI c a) (keyI c b) = 0
  · rw [if_neg (by simpa using k1)] at h1
    have e1 := cmpI_zero _ _ k1
    rw [e1]
    by_cases k2 : cmpI (keyI c b) (keyI c d) = 0
    · rw [if_neg (by simpa using k2)] at h2 ⊢
      exact t2 h1 h2
    · rw [if_pos k2] at h2 ⊢
      exact h2
  · rw [if_pos k1] at h1
    by_cases k2 : cmpI (keyI c b) (keyI c d) = 0
    · have e2 := cmpI_zero _ _ k2
      rw [← e2, if_pos k1]
      exact h1
    · rw [if_pos k2] at h2
      have h3 := t1 h1 h2
      by_cases k3 : cmpI (keyI c a) (keyI c d) = 0
      · exfalso
        have e3 := cmpI_zero _ _ k3
        rw [e3] at h1
        have := cmpI_neg (keyI c b) (keyI c d)
        omega
      · rw [if_pos k3]; exact h3
theorem cmpI_at (x y : List Int) (k : Nat) (hx : k < x.length) (hy : k < y.length) : cmpI (x.drop k) (y.drop k) = if x[k] < y[k] then -1 else if y[k] < x[k] then 1 else cmpI (x.drop (k + 1)) (y.drop (k + 1)) := by
  rw [List.drop_eq_getElem_cons hx, List.drop_eq_getElem_cons hy, cmpI]
theorem cmpI_end (x y : List Int) (k : Nat) (hk : k ≤ x.length) (hk2 : k ≤ y.length) (h : ¬ (k < x.length ∧ k < y.length)) : cmpI (x.drop k) (y.drop k) = if x.length < y.length then -1 else if y.length < x.length then 1 else 0 := by
  by_cases h1 : k < x.length
  · have h2 : y.length = k := by omega
    rw [List.drop_of_length_le (l := y) (by omega), List.drop_eq_getElem_cons h1, if_neg (by omega), if_pos (by omega)]; rfl
  · rw [List.drop_of_length_le (l := x) (by omega)]
    by_cases h2 : k < y.length
    · rw [List.drop_eq_getElem_cons h2, if_pos (by omega)]; rfl
    · rw [List.drop_of_length_le (l := y) (by omega), if_neg (by omega), if_neg (by omega)]; rfl
end Go.Proofs.YtnbhpmleboildaaGreatDoor

/- How texts compare: the library's word and the plain one. No condition. -/
set_option linter.all false
namespace Go.Proofs.YtnbhpmleboildaaGreatDoor
open Go.RowKit

theorem u8_lt (a b : UInt8) : a < b ↔ (a.toNat : Int) < (b.toNat : Int) := by rw [UInt8.lt_iff_toNat_lt]; omega
theorem cmpB_lib : ∀ a b : Bs, Lib.compareBytes a b = cmpB a b
  | [], [] => rfl
  | [], _ :: _ => rfl
  | _ :: _, [] => rfl
  | a :: x, b :: y => by
    have ih := cmpB_lib x y
    unfold cmpB at ih ⊢
    rw [Lib.compareBytes, List.map_cons, List.map_cons, cmpI, ih]
    simp only [u8_lt]
end Go.Proofs.YtnbhpmleboildaaGreatDoor
