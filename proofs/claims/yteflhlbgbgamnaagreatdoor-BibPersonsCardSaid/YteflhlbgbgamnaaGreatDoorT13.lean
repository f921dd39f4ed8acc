/- Clean text of one line. No condition. -/
import Derived.Test.YteflhlbgbgamnaaGreatDoorT02
import Derived.Test.YteflhlbgbgamnaaGreatDoorT07
import Derived.Test.YteflhlbgbgamnaaGreatDoorT08

set_option linter.all false
namespace Go.Proofs.YteflhlbgbgamnaaGreatDoor
open Go.RowKit

def lineB (l : Bs) : Bool := validB (bs l) && !(l.contains 10)
end Go.Proofs.YteflhlbgbgamnaaGreatDoor

/- strings.ContainsAny at every text and a short set of ASCII letters. Conditions: lengths. -/
set_option linter.all false
namespace Go.Proofs.YteflhlbgbgamnaaGreatDoor
open Go.RowKit

def encL (r : Int) : Bs := (Utf8.encode r).data.toList
theorem encode_bs (r : Int) : Utf8.encode r = bs (encL r) := rfl
theorem ofNat_big (n : Nat) (h : n < 256) (k : 128 ≤ n) : 128 ≤ ((UInt8.ofNat n).toNat : Int) := by
  rw [UInt8.toNat_ofNat', Nat.mod_eq_of_lt h]; omega
theorem encL_big (r : Int) (h : 128 ≤ r) : 2 ≤ (encL r).length ∧ (encL r).length ≤ 4 ∧ ∀ b ∈ encL r, 128 ≤ (b.toNat : Int) := by
  have hc : 128 ≤ (if Utf8.valid r then r.toNat else Utf8.runeError) ∧ (if Utf8.valid r then r.toNat else Utf8.runeError) ≤ 1114111 := by
    split
    · rename_i hv; unfold Utf8.valid at hv; simp only [Bool.or_eq_true, Bool.and_eq_true, decide_eq_true_eq] at hv; omega
    · unfold Utf8.runeError; omega
  unfold encL Utf8.encode
  generalize (if Utf8.valid r then r.toNat else Utf8.runeError) = c at *
  simp only
  rw [if_neg (by omega)]
  split
  · refine ⟨by simp, by simp, ?_⟩
    intro b hb
    simp only [List.mem_cons, List.not_mem_nil, or_false] at hb
    rcases hb with rfl | rfl <;> exact ofNat_big _ (by omega) (by omega)
  split
  · refine ⟨by simp, by simp, ?_⟩
    intro b hb
    simp only [List.mem_cons, List.not_mem_nil, or_false] at hb
    rcases hb with rfl | rfl | rfl <;> exact ofNat_big _ (by omega) (by omega)
  · refine ⟨by simp, by simp, ?_⟩
    intro b hb
    simp only [List.mem_cons, List.not_mem_nil, or_false] at hb
    rcases hb with rfl | rfl | rfl | rfl <;> exact ofNat_big _ (by omega) (by omega)
theorem at8_mem (l : Bs) (j : Nat) (h : j < l.length) : ∃ b ∈ l, at8 l j = (b.toNat : Int) := ⟨l[j], List.getElem_mem h, at8_get l j h⟩
def Ascii (cs : Bs) : Prop := ∀ b ∈ cs, (b.toNat : Int) < 128
theorem indexByte_not (c : UInt8) (l : Bs) (h : c ∉ l) : Lib.indexByte l c = -1 := by
  have h1 := indexByte_contains c l
  have h2 := Lib.indexByte_ge l c
  have h3 : l.contains c = false := by simpa using h
  rw [h3] at h1
  simp at h1; omega

set_option maxRecDepth 100000 in
set_option maxHeartbeats 1600000 in
theorem irune_big (cs : Bs) (r : Int) (w : World) (hr : 128 ≤ r) (hr2 : r ≤ 2000000) (hne : (r == 65533) = false) (hcs : Ascii cs) (hl : cs.length ≤ 1000) :
    Calls Tryz.prog 150 #[.string (bs cs), .int .i32 r] w fun e w' => e = .returned (.int .i64 (-1)) ∧ ∃ n, w' = w.drewN n := by
  obtain ⟨v, hv⟩ : ∃ v, Lib.validRune r = v := ⟨_, rfl⟩
  cases v
  · go_enter Tryz.func150, Tryz.ntmps150
    go_wp2_with (go_at_call 167; refine (Tryz.utf8_ValidRune _ _).mono ?_; rintro e w' ⟨rfl, rfl⟩)
    go_ret
    exact ⟨rfl, 0, rfl⟩
  · obtain ⟨e1, e2, e3⟩ := encL_big r hr
    have hen := encode_bs r
    generalize encL r = rs at *
    have hlast : rs.length - 1 < rs.length := by omega
    obtain ⟨b, hb, hbe⟩ := at8_mem rs (rs.length - 1) hlast
    have i0 := run_ix (P := Tryz.prog) (t := 9) Tryz.underlying9 rs (rs.length - 1) hlast (rs.length - 1) (by omega)
    have hbig := e3 b hb
    have hbl : (b.toNat : Int) < 256 := by have := b.toNat_lt; omega
    have hnot : ∀ k, Lib.indexByte (cs.drop k) b = -1 := fun k => indexByte_not b _ (fun q => by have := hcs b (List.mem_of_mem_drop q); omega)
    obtain ⟨c, hc⟩ : ∃ c : Int, c = b.toNat := ⟨_, rfl⟩
    rw [hbe, ← hc] at i0
    have hb1 : ∀ x : Bs, Lib.indexByte x b = -1 → ∀ w, Calls Tryz.prog 166 #[.string (bs x), .int .u8 c] w fun e w' => e = .returned (.int .i64 (-1)) ∧ w' = w := by
      intro x hx w
      refine (Tryz.strings_IndexByte (bs x) c w).mono ?_
      rintro e w' ⟨rfl, rfl⟩
      refine ⟨?_, rfl⟩
      rw [hc, Int.toNat_natCast, show b.toNat.toUInt8 = b from by simp, bs_data, hx]
    have HB := Lib.hid hb1
    rw [← hc] at hbig hbl
    clear hbe hb e3 hc hb1
    by_cases hlt : rs.length - 1 < cs.length
    · have i1 := run_ix (P := Tryz.prog) (t := 9) Tryz.underlying9 cs (rs.length - 1) hlt (rs.length - 1) (by omega)
      have hsm : at8 cs (rs.length - 1) < 128 := by obtain ⟨b', hb', e⟩ := at8_mem cs _ hlt; rw [e]; exact hcs b' hb'
      have hsm0 := at8_lo cs (rs.length - 1)
      generalize at8 cs (rs.length - 1) = c' at *
      have sl := run_from (P := Tryz.prog) (t := 9) Tryz.underlying9 cs (rs.length) (by omega) (rs.length - 1 + 1) (by omega) _ rfl
      have sl2 := run_from (P := Tryz.prog) (t := 9) Tryz.underlying9 cs (rs.length) (by omega) (rs.length) rfl _ rfl
      have HN := Lib.hid (HB.out _ (hnot rs.length))
      clear hnot HB
      go_enter Tryz.func150, Tryz.ntmps150
      go_wp2_with (first | (go_at_call 167; refine (Tryz.utf8_ValidRune _ _).mono ?_; rintro e w' ⟨rfl, rfl⟩))
      go_step3
      go_wp2_with (first | (go_at_call 167; refine (Tryz.utf8_ValidRune _ _).mono ?_; rintro e w' ⟨rfl, rfl⟩))
      refine wp_loop_rounds 1 ?_
      rw [rounds_succ]
      go_wp2_with fail
      go_step3
      go_wp2_with fail
      go_quiet (fail)
      obtain ⟨w2, hw2⟩ : ∃ x, x = w'.drewN nq := ⟨_, rfl⟩
      rw [← hw2]
      have HW2 := Lib.hid hw2
      clear hw2
      go_wp2_with fail
      have hsum : IntKind.i64.wrap (↑(List.length rs) - 1 + 1) = ↑(List.length rs) := IntWalk.i64_in _ (by omega) |>.trans (by omega)
      have hsum2 : (0 : Int) ≤ ↑(List.length rs) := by omega
      go_quiet ((go_at_call 166; exact Calls.quiet_of_same (HN.out _)))
      go_wp2_with fail
      rw [Exit.noGoto_ret]
      go_wp2_with fail
      rw [Exit.noGoto_ret]
      go_wp2_with fail
      go_ret
      exact ⟨rfl, by rw [HW2.out]; exact drewN_more⟩
    · go_enter Tryz.func150, Tryz.ntmps150
      go_wp2_with (go_at_call 167; refine (Tryz.utf8_ValidRune _ _).mono ?_; rintro e w' ⟨rfl, rfl⟩)
      go_step3
      go_wp2_with fail
      refine wp_loop_rounds 1 ?_
      rw [rounds_succ]
      go_wp2_with fail
      try rw [Exit.noGoto_ret]
      try rw [Exit.noGoto_ret]
      go_ret
      exact ⟨rfl, 0, rfl⟩

theorem dec_ascii (l : Bs) (i : Nat) (h : at8 l i < 128) : dec (bs l) i = (at8 l i, 1) := by unfold dec; rw [byteAt_bs, if_pos h]
theorem next_iter {P : Program} (w : World) (l : Bs) (pos : Nat) (ty : TypeId) (h : pos < l.length) (c n : Int) (hd : dec (bs l) pos = (c, n)) :
    (Instr.next (.pointer (some ⟨w.heap.size, 0, none⟩)) true ty).run P (w.iter (bs l) pos) = .ok (.tuple #[.bool true, .int .i64 pos, .int .i32 c]) (w.iter (bs l) (pos + n.toNat)) := by
  rw [run_next_any w (bs l) pos ty h]
  rw [dec_eq] at hd
  obtain ⟨h1, h2⟩ := Prod.mk.injEq _ _ _ _ ▸ hd
  rw [h1, ← h2, Int.toNat_natCast]

set_option maxRecDepth 100000 in
set_option maxHeartbeats 1600000 in
theorem irune_err (cs : Bs) (w : World) (hcs : Ascii cs) (hl : cs.length ≤ 1000) :
    Calls Tryz.prog 150 #[.string (bs cs), .int .i32 65533] w fun e w' => e = .returned (.int .i64 (-1)) ∧ Kept w w' := by
  go_enter Tryz.func150, Tryz.ntmps150
  go_wp2_with fail
  go_loopw [5] (fun u wr => ∃ pos : Nat, pos ≤ cs.length ∧ wr = w.iter (bs cs) pos) (fun u wr => cs.length - wr.iterPos w.heap.size)
  case atStart => exact ⟨0, Nat.zero_le _, rfl⟩
  case round =>
    obtain ⟨pos, hp, rfl⟩ := hrel
    by_cases hlt : pos < cs.length
    · have hsm : at8 cs pos < 128 := by obtain ⟨b', hb', e⟩ := at8_mem cs _ hlt; rw [e]; exact hcs b' hb'
      have hsm0 := at8_lo cs pos
      have nx := fun ty => next_iter (P := Tryz.prog) w cs pos ty hlt _ _ (dec_ascii cs pos hsm)
      generalize at8 cs pos = c at *
      have hne : (c == 65533) = false := by rw [beq_eq_false_iff_ne]; omega
      go_wp2_with fail
      go_roundw
      case rel => exact ⟨pos + 1, by omega, rfl⟩
      case measure => simp; omega
    · have nx := fun ty => run_next_end (P := Tryz.prog) w (bs cs) pos ty hlt
      go_wp2_with fail
      go_ret
      exact ⟨rfl, kept_alloc _ _⟩
end Go.Proofs.YteflhlbgbgamnaaGreatDoor
