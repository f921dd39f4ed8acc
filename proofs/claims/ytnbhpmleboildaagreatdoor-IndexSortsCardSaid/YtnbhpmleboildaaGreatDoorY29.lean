/- awake of law26. Conditions: the tables of the library. -/
import Derived.Test.YtnbhpmleboildaaGreatDoorY28
import Derived.Test.YtnbhpmleboildaaGreatDoorY25
import Derived.Test.YtnbhpmleboildaaGreatDoorY04
import Derived.Test.YtnbhpmleboildaaGreatDoorY13
import Derived.Test.YtnbhpmleboildaaGreatDoorY09

set_option linter.all false
namespace Go.Proofs.YtnbhpmleboildaaGreatDoor
open Go.RowKit

/-- Blocks that lie in a block of memory, one behind the other. -/
theorem row_bloI {N M : Nat} {S : Nat → Prop} {w : World} {g c : Nat} {css : List (List Value)} {xs : List Blo} (hb : Blk w g 38 css.flatten.toArray) (hl : css.length = xs.length) (hk : ∀ cs ∈ css, cs.length = 11) (hR : ∀ (j : Nat) (cs : List Value) (x : Blo), css[j]? = some cs → xs[j]? = some x → BloK N M S w cs x) (hS : S g) (hc : xs.length ≤ c) : Bls S N (M + 1) w (.slice (some ⟨g, 0, none⟩) xs.length c) xs := by
  show RowR S 11 _ w _ _
  refine ⟨some ⟨g, 0, none⟩, c, rfl, hc, fun q => ⟨g, 0, rfl, hb.lt, hS, fun j x hx => ?_⟩⟩
  have hj := (List.getElem?_eq_some_iff.1 hx).1
  have hcs : css[j]? = some (css[j]'(by omega)) := List.getElem?_eq_getElem (by omega)
  refine ⟨css[j]'(by omega), hk _ (List.getElem_mem _), fun i u hu => ?_, hR j _ x hcs hx⟩
  rw [Nat.zero_add]
  exact hb.cell _ u (by rw [List.getElem?_toArray]; exact flat_at css hk j _ hcs i u hu)
/-- Inlines that lie in a block of memory, one behind the other. -/
theorem row_inlI {M : Nat} {S : Nat → Prop} {w : World} {g c : Nat} {css : List (List Value)} {xs : List Inl} (hb : Blk w g 51 css.flatten.toArray) (hl : css.length = xs.length) (hk : ∀ cs ∈ css, cs.length = 10) (hR : ∀ (j : Nat) (cs : List Value) (x : Inl), css[j]? = some cs → xs[j]? = some x → InlK M S w cs x) (hS : S g) (hc : xs.length ≤ c) : Lns S (M + 1) w (.slice (some ⟨g, 0, none⟩) xs.length c) xs := by
  show RowR S 10 _ w _ _
  refine ⟨some ⟨g, 0, none⟩, c, rfl, hc, fun q => ⟨g, 0, rfl, hb.lt, hS, fun j x hx => ?_⟩⟩
  have hj := (List.getElem?_eq_some_iff.1 hx).1
  have hcs : css[j]? = some (css[j]'(by omega)) := List.getElem?_eq_getElem (by omega)
  refine ⟨css[j]'(by omega), hk _ (List.getElem_mem _), fun i u hu => ?_, hR j _ x hcs hx⟩
  rw [Nat.zero_add]
  exact hb.cell _ u (by rw [List.getElem?_toArray]; exact flat_at css hk j _ hcs i u hu)
def markV (id : Bs) (C K : Nat) : Value := .agg #[.int .i64 11, .string (bs []), .string (bs []), .string (bs []), .string (bs id), .slice (some ⟨C, 0, none⟩) 1 1, .slice none 0 0, .slice none 0 0, .slice none 0 0, .slice (some ⟨K, 0, none⟩) 1 1]
set_option maxRecDepth 100000 in
theorem mkix_any (s id : Bs) (w : World) :
    Calls Tryz.prog 14 #[.string (bs s), .string (bs id)] w fun e w' => ∃ C K : Nat, e = .returned (markV id C K) ∧ w.heap.size ≤ C ∧ w.heap.size ≤ K ∧ Blk w' C 9 #[.string (bs kIndex)] ∧ Blk w' K 51 #[.int .i64 1, .string (bs s), .string (bs []), .string (bs []), .string (bs []), .slice none 0 0, .slice none 0 0, .slice none 0 0, .slice none 0 0, .slice none 0 0] ∧ Kept w w' := by
  have hk : ∀ (w0 : World) (n : Nat), w0.heap.size = n → Kept w w0 → w.heap.size ≤ n → ∃ C K : Nat, markV id n (n + 1) = markV id C K ∧ w.heap.size ≤ C ∧ w.heap.size ≤ K ∧ Blk ((w0.alloc (.cells #[.string (bs [105, 110, 100, 101, 120])] 9)).alloc (.cells #[.int .i64 1, .string (bs s), .string (bs []), .string (bs []), .string (bs []), .slice none 0 0, .slice none 0 0, .slice none 0 0, .slice none 0 0, .slice none 0 0] 51)) C 9 #[.string (bs kIndex)] ∧ Blk ((w0.alloc (.cells #[.string (bs [105, 110, 100, 101, 120])] 9)).alloc (.cells #[.int .i64 1, .string (bs s), .string (bs []), .string (bs []), .string (bs []), .slice none 0 0, .slice none 0 0, .slice none 0 0, .slice none 0 0, .slice none 0 0] 51)) K 51 #[.int .i64 1, .string (bs s), .string (bs []), .string (bs []), .string (bs []), .slice none 0 0, .slice none 0 0, .slice none 0 0, .slice none 0 0, .slice none 0 0] ∧ Kept w ((w0.alloc (.cells #[.string (bs [105, 110, 100, 101, 120])] 9)).alloc (.cells #[.int .i64 1, .string (bs s), .string (bs []), .string (bs []), .string (bs []), .slice none 0 0, .slice none 0 0, .slice none 0 0, .slice none 0 0, .slice none 0 0] 51)) := by
    intro w0 n hn hk hw
    have b1 := Blk.new w0 9 #[.string (bs [105, 110, 100, 101, 120])]
    have e1 : (w0.alloc (.cells #[.string (bs [105, 110, 100, 101, 120])] 9)).heap.size = n + 1 := by simp [hn]
    have b2 := Blk.new (w0.alloc (.cells #[.string (bs [105, 110, 100, 101, 120])] 9)) 51 #[.int .i64 1, .string (bs s), .string (bs []), .string (bs []), .string (bs []), .slice none 0 0, .slice none 0 0, .slice none 0 0, .slice none 0 0, .slice none 0 0]
    rw [hn] at b1
    rw [e1] at b2
    exact ⟨n, n + 1, rfl, hw, by omega, b1.kept (kept_alloc _ _), b2, (hk.trans (kept_alloc _ _)).trans (kept_alloc _ _)⟩
  have HK := Lib.hid hk
  clear hk
  have e0 : (w.alloc (.cells #[.int .i64 11, .string (bs []), .string (bs []), .string (bs []), .string (bs id), .slice (some ⟨w.heap.size + 1, 0, none⟩) 1 1, .slice none 0 0, .slice none 0 0, .slice none 0 0, .slice (some ⟨w.heap.size + 1 + 1, 0, none⟩) 1 1] 51)).heap.size = w.heap.size + 1 := by simp
  have HE0 := Lib.hid e0
  clear e0
  go_enter Tryz.func14, Tryz.ntmps14
  go_wp2_with fail
  obtain ⟨C, K, h1, h2, h3, h4, h5, h6⟩ := HK.out _ (w.heap.size + 1) HE0.out (kept_alloc w _) (by omega)
  refine bodyPost_ret (v := markV id (w.heap.size + 1) (w.heap.size + 1 + 1)) ?_ rfl ⟨C, K, by rw [h1], h2, h3, h4, h5, h6⟩
  simp [results, Tryz.results14, go_sem, markV]
theorem mkix_inl {n : Nat} {S : Nat → Prop} {w : World} {C K : Nat} {s id : Bs} (hC : S C) (hK : S K) (h4 : Blk w C 9 #[.string (bs kIndex)]) (h5 : Blk w K 51 #[.int .i64 1, .string (bs s), .string (bs []), .string (bs []), .string (bs []), .slice none 0 0, .slice none 0 0, .slice none 0 0, .slice none 0 0, .slice none 0 0]) :
    InlK (n + 1) S w [.int .i64 11, .string (bs []), .string (bs []), .string (bs []), .string (bs id), .slice (some ⟨C, 0, none⟩) 1 1, .slice none 0 0, .slice none 0 0, .slice none 0 0, .slice (some ⟨K, 0, none⟩) 1 1] (markI s id) :=
  ⟨_, _, _, _, _, rfl, ⟨strs_one h4, inB_one hC _⟩, ⟨Prs.none_ w, InB.nil _ _⟩, ⟨Strs.none_ w, InB.nil _ _⟩, RowR.none_ _ _ _ _,
    one_inl h5 rfl hK ⟨_, _, _, _, _, rfl, ⟨Strs.none_ w, InB.nil _ _⟩, ⟨Prs.none_ w, InB.nil _ _⟩, ⟨Strs.none_ w, InB.nil _ _⟩, RowR.none_ _ _ _ _, Lns.none_ _ _ _⟩⟩
set_option maxRecDepth 100000 in
set_option maxHeartbeats 12800000 in
theorem awake26_any (w : World) (hg : Gnd w) (hT : Lib.TabIs Tryz.prog w "internal/strconv.uint64pow10" .u64 Lib.pow10Tab) : Calls Tryz.prog 7 #[] w fun e w' => e = .returned (.bool true) ∧ Kept w w' := by
  have HG := Lib.hid hg
  have HTB := Lib.hid hT
  clear hg hT
  go_enter Tryz.func7, Tryz.ntmps7
  go_wp2_with fail
  refine (mkix_any [98] [] w).mono ?_
  rintro e w1 ⟨C1, K1, rfl, -, -, bC, bK, k1⟩
  have HU1 := Lib.hid (mkix_inl (n := 0) (S := fun _ => True) (s := [98]) (id := []) trivial trivial bC bK)
  have HK1 := Lib.hid k1
  clear bC bK k1
  unfold markV
  go_wp2_with fail
  refine (mkix_any [97, 33, 120] [] w1).mono ?_
  rintro e w2 ⟨C2, K2, rfl, -, -, bC, bK, k2⟩
  have HU2 := Lib.hid (mkix_inl (n := 0) (S := fun _ => True) (s := [97, 33, 120]) (id := []) trivial trivial bC bK)
  have HV1 := Lib.hid ((inlK 1).sam HU1.out (Sam.kept k2) (fun _ _ q => q))
  have HK2 := Lib.hid (HK1.out.trans k2)
  clear bC bK k2 HU1 HK1
  unfold markV
  go_wp2_with fail
  refine (mkix_any [97] [105, 120, 45, 49] w2).mono ?_
  rintro e w3 ⟨C3, K3, rfl, -, -, bC, bK, k3⟩
  have HU3 := Lib.hid (mkix_inl (n := 0) (S := fun _ => True) (s := [97]) (id := [105, 120, 45, 49]) trivial trivial bC bK)
  have HW1 := Lib.hid ((inlK 1).sam HV1.out (Sam.kept k3) (fun _ _ q => q))
  have HW2 := Lib.hid ((inlK 1).sam HU2.out (Sam.kept k3) (fun _ _ q => q))
  have HK3 := Lib.hid (HK2.out.trans k3)
  clear bC bK k3 HV1 HU2 HK2
  unfold markV
  obtain ⟨L, HL⟩ : ∃ L, Hid (w3.heap.size = L) := ⟨_, rfl⟩
  go_wp2_with fail
  rw [HL.out]
  have hl := Blk.new w3 51 #[.int .i64 11, .string (bs []), .string (bs []), .string (bs []), .string (bs []), .slice (some ⟨C1, 0, none⟩) 1 1, .slice none 0 0, .slice none 0 0, .slice none 0 0, .slice (some ⟨K1, 0, none⟩) 1 1, .int .i64 11, .string (bs []), .string (bs []), .string (bs []), .string (bs []), .slice (some ⟨C2, 0, none⟩) 1 1, .slice none 0 0, .slice none 0 0, .slice none 0 0, .slice (some ⟨K2, 0, none⟩) 1 1, .int .i64 11, .string (bs []), .string (bs []), .string (bs []), .string (bs [105, 120, 45, 49]), .slice (some ⟨C3, 0, none⟩) 1 1, .slice none 0 0, .slice none 0 0, .slice none 0 0, .slice (some ⟨K3, 0, none⟩) 1 1]
  have hka := kept_alloc w3 (.cells #[.int .i64 11, .string (bs []), .string (bs []), .string (bs []), .string (bs []), .slice (some ⟨C1, 0, none⟩) 1 1, .slice none 0 0, .slice none 0 0, .slice none 0 0, .slice (some ⟨K1, 0, none⟩) 1 1, .int .i64 11, .string (bs []), .string (bs []), .string (bs []), .string (bs []), .slice (some ⟨C2, 0, none⟩) 1 1, .slice none 0 0, .slice none 0 0, .slice none 0 0, .slice (some ⟨K2, 0, none⟩) 1 1, .int .i64 11, .string (bs []), .string (bs []), .string (bs []), .string (bs [105, 120, 45, 49]), .slice (some ⟨C3, 0, none⟩) 1 1, .slice none 0 0, .slice none 0 0, .slice none 0 0, .slice (some ⟨K3, 0, none⟩) 1 1] 51)
  have he : (w3.alloc (.cells #[.int .i64 11, .string (bs []), .string (bs []), .string (bs []), .string (bs []), .slice (some ⟨C1, 0, none⟩) 1 1, .slice none 0 0, .slice none 0 0, .slice none 0 0, .slice (some ⟨K1, 0, none⟩) 1 1, .int .i64 11, .string (bs []), .string (bs []), .string (bs []), .string (bs []), .slice (some ⟨C2, 0, none⟩) 1 1, .slice none 0 0, .slice none 0 0, .slice none 0 0, .slice (some ⟨K2, 0, none⟩) 1 1, .int .i64 11, .string (bs []), .string (bs []), .string (bs []), .string (bs [105, 120, 45, 49]), .slice (some ⟨C3, 0, none⟩) 1 1, .slice none 0 0, .slice none 0 0, .slice none 0 0, .slice (some ⟨K3, 0, none⟩) 1 1] 51)).heap.size = L + 1 := by rw [World.size_alloc, HL.out]
  rw [HL.out] at hl
  generalize w3.alloc (.cells #[.int .i64 11, .string (bs []), .string (bs []), .string (bs []), .string (bs []), .slice (some ⟨C1, 0, none⟩) 1 1, .slice none 0 0, .slice none 0 0, .slice none 0 0, .slice (some ⟨K1, 0, none⟩) 1 1, .int .i64 11, .string (bs []), .string (bs []), .string (bs []), .string (bs []), .slice (some ⟨C2, 0, none⟩) 1 1, .slice none 0 0, .slice none 0 0, .slice none 0 0, .slice (some ⟨K2, 0, none⟩) 1 1, .int .i64 11, .string (bs []), .string (bs []), .string (bs []), .string (bs [105, 120, 45, 49]), .slice (some ⟨C3, 0, none⟩) 1 1, .slice none 0 0, .slice none 0 0, .slice none 0 0, .slice (some ⟨K3, 0, none⟩) 1 1] 51) = w4 at *
  have hl2 := Blk.new w4 38 #[.int .i64 1, .int .i64 0, .string (bs []), .string (bs []), .string (bs []), .string (bs []), .string (bs []), .slice none 0 0, .slice none 0 0, .slice (some ⟨L, 0, none⟩) 3 3, .slice none 0 0, .int .i64 13, .int .i64 0, .string (bs [105, 110, 100, 101, 120]), .string (bs []), .string (bs []), .string (bs []), .string (bs []), .slice none 0 0, .slice none 0 0, .slice none 0 0, .slice none 0 0]
  have hka2 := kept_alloc w4 (.cells #[.int .i64 1, .int .i64 0, .string (bs []), .string (bs []), .string (bs []), .string (bs []), .string (bs []), .slice none 0 0, .slice none 0 0, .slice (some ⟨L, 0, none⟩) 3 3, .slice none 0 0, .int .i64 13, .int .i64 0, .string (bs [105, 110, 100, 101, 120]), .string (bs []), .string (bs []), .string (bs []), .string (bs []), .slice none 0 0, .slice none 0 0, .slice none 0 0, .slice none 0 0] 38)
  have he2 : (w4.alloc (.cells #[.int .i64 1, .int .i64 0, .string (bs []), .string (bs []), .string (bs []), .string (bs []), .string (bs []), .slice none 0 0, .slice none 0 0, .slice (some ⟨L, 0, none⟩) 3 3, .slice none 0 0, .int .i64 13, .int .i64 0, .string (bs [105, 110, 100, 101, 120]), .string (bs []), .string (bs []), .string (bs []), .string (bs []), .slice none 0 0, .slice none 0 0, .slice none 0 0, .slice none 0 0] 38)).heap.size = L + 1 + 1 := by rw [World.size_alloc, he]
  rw [he] at hl2
  generalize w4.alloc (.cells #[.int .i64 1, .int .i64 0, .string (bs []), .string (bs []), .string (bs []), .string (bs []), .string (bs []), .slice none 0 0, .slice none 0 0, .slice (some ⟨L, 0, none⟩) 3 3, .slice none 0 0, .int .i64 13, .int .i64 0, .string (bs [105, 110, 100, 101, 120]), .string (bs []), .string (bs []), .string (bs []), .string (bs []), .slice none 0 0, .slice none 0 0, .slice none 0 0, .slice none 0 0] 38) = w5 at *
  have hl3 := Blk.new w5 25 #[.slice none 0 0, .slice (some ⟨L + 1, 0, none⟩) 2 2]
  have hka3 := kept_alloc w5 (.cells #[.slice none 0 0, .slice (some ⟨L + 1, 0, none⟩) 2 2] 25)
  rw [he2] at hl3
  generalize w5.alloc (.cells #[.slice none 0 0, .slice (some ⟨L + 1, 0, none⟩) 2 2] 25) = w6 at *
  have HD6 := Lib.hid hl3
  have HK6 := Lib.hid (((HK3.out.trans hka).trans hka2).trans hka3)
  have HLN : Hid (Lns (fun _ => True) 2 w4 (.slice (some ⟨L, 0, none⟩) 3 3) [markI [98] [], markI [97, 33, 120] [], markI [97] ix1]) := row_inlI (M := 1) (c := 3) (xs := [markI [98] [], markI [97, 33, 120] [], markI [97] ix1]) (css := [[.int .i64 11, .string (bs []), .string (bs []), .string (bs []), .string (bs []), .slice (some ⟨C1, 0, none⟩) 1 1, .slice none 0 0, .slice none 0 0, .slice none 0 0, .slice (some ⟨K1, 0, none⟩) 1 1], [.int .i64 11, .string (bs []), .string (bs []), .string (bs []), .string (bs []), .slice (some ⟨C2, 0, none⟩) 1 1, .slice none 0 0, .slice none 0 0, .slice none 0 0, .slice (some ⟨K2, 0, none⟩) 1 1], [.int .i64 11, .string (bs []), .string (bs []), .string (bs []), .string (bs [105, 120, 45, 49]), .slice (some ⟨C3, 0, none⟩) 1 1, .slice none 0 0, .slice none 0 0, .slice none 0 0, .slice (some ⟨K3, 0, none⟩) 1 1]]) hl rfl (by intro cs h; simp only [List.mem_cons, List.not_mem_nil, or_false] at h; rcases h with rfl | rfl | rfl <;> rfl) (by
    intro j cs x h1 h2
    match j, h1, h2 with
    | 0, h1, h2 => cases h1; cases h2; exact (inlK 1).sam HW1.out (Sam.kept hka) (fun _ _ q => q)
    | 1, h1, h2 => cases h1; cases h2; exact (inlK 1).sam HW2.out (Sam.kept hka) (fun _ _ q => q)
    | 2, h1, h2 => cases h1; cases h2; exact (inlK 1).sam HU3.out (Sam.kept hka) (fun _ _ q => q)
    | n + 3, h1, h2 => cases h1) trivial (Nat.le_refl _)
  have HB1 : BloK 2 0 (fun _ => True) w5 [.int .i64 1, .int .i64 0, .string (bs []), .string (bs []), .string (bs []), .string (bs []), .string (bs []), .slice none 0 0, .slice none 0 0, .slice (some ⟨L, 0, none⟩) 3 3, .slice none 0 0] (bloP [markI [98] [], markI [97, 33, 120] [], markI [97] ix1]) := para_blo (HLN.out.kept hka2)
  have HB2 : BloK 2 0 (fun _ => True) w5 [.int .i64 13, .int .i64 0, .string (bs [105, 110, 100, 101, 120]), .string (bs []), .string (bs []), .string (bs []), .string (bs []), .slice none 0 0, .slice none 0 0, .slice none 0 0, .slice none 0 0] ixB := ⟨_, _, _, _, rfl, ⟨Strs.none_ _, InB.nil _ _⟩, ⟨Prs.none_ _, InB.nil _ _⟩, Lns.none_ _ _ _, Bls.none_ _ _ _ _⟩
  have hbl : Bls (fun _ => True) 2 1 w5 (.slice (some ⟨L + 1, 0, none⟩) 2 2) dA := row_bloI (N := 2) (M := 0) (c := 2) (xs := dA) (css := [[.int .i64 1, .int .i64 0, .string (bs []), .string (bs []), .string (bs []), .string (bs []), .string (bs []), .slice none 0 0, .slice none 0 0, .slice (some ⟨L, 0, none⟩) 3 3, .slice none 0 0], [.int .i64 13, .int .i64 0, .string (bs [105, 110, 100, 101, 120]), .string (bs []), .string (bs []), .string (bs []), .string (bs []), .slice none 0 0, .slice none 0 0, .slice none 0 0, .slice none 0 0]]) hl2 rfl (by intro cs h; simp only [List.mem_cons, List.not_mem_nil, or_false] at h; rcases h with rfl | rfl <;> rfl) (by
    intro j cs x h1 h2
    match j, h1, h2 with
    | 0, h1, h2 => cases h1; cases h2; exact HB1
    | 1, h1, h2 => cases h1; cases h2; exact HB2
    | n + 2, h1, h2 => cases h1) trivial (Nat.le_refl _)
  have HBL : Hid (Bls (fun g => g < w6.heap.size) 2 1 w6 (.slice (some ⟨L + 1, 0, none⟩) 2 2) dA) := (hbl.kept hka3).mono (fun g h _ => h)
  clear hl hl2 hl3 hka hka2 hka3 he he2 hbl HB1 HB2 HLN HW1 HW2 HU3 HK3
  refine (marks_any 2 1 (.slice none 0 0) _ [] dA w6 (HG.out.kept HK6.out) (tab_kept HTB.out HK6.out) (Prs.none_ _) (by simp) HBL.out (by decide) smA.okB smA.okW (Nat.le_trans smA.inls (by decide)) (Nat.le_trans smA.list (by decide))).mono ?_
  rintro e w7 ⟨v1, v2, rfl, ⟨hp7, -⟩, hb7, hk7⟩
  rw [show (mbL (usedOf dA) 0 dA).1 = dB from mkdA] at hb7
  obtain ⟨aM, cM, hvM, lM⟩ := hp7.shape
  obtain rfl : v1 = .slice aM 0 cM := hvM
  obtain ⟨aB, cB, hvB, lB⟩ := hb7.form
  obtain rfl : v2 = .slice aB 2 cB := hvB
  have hka := kept_alloc w7 (.cells #[.slice aM 0 cM, .slice aB 2 cB] 25)
  have hmd := Blk.new w7 25 #[.slice aM 0 cM, .slice aB 2 cB]
  obtain ⟨X, HX⟩ : ∃ X, Hid (w7.heap.size = X) := ⟨_, rfl⟩
  rw [HX.out] at hmd
  have HMD := Lib.hid hmd
  have HB8 := Lib.hid (hb7.kept hka)
  have HA8 := Lib.hid (HBL.out.kept (hk7.trans hka))
  have HK8 := Lib.hid ((HK6.out.trans hk7).trans hka)
  have HD8 := Lib.hid ((HD6.out.kept hk7).kept hka)
  clear hmd hka hk7 hp7 hb7 HK6 HD6 HBL
  go_upto_region 3 with fail
  rw [HX.out]
  generalize w7.alloc (.cells #[.slice aM 0 cM, .slice aB 2 cB] 25) = w8 at *
  have x0 : w8.cell? ⟨X, 0, none⟩ = some (.slice aM 0 cM) := HMD.out.cell 0 _ rfl
  have x1 : w8.cell? ⟨X, 1, none⟩ = some (.slice aB 2 cB) := HMD.out.cell 1 _ rfl
  have xz := HMD.out.lt
  obtain ⟨gB, oB, vC, vP, vL, vK, rfl, hgB, _, -, -, ⟨_, _, _, _, _, _, _, _, _, b9, _⟩, -, _, _, hL, _⟩ := Bls.at_ HB8.out 0 _ rfl
  obtain ⟨aL, cL, hvL, lL⟩ := hL.form
  obtain rfl : vL = .slice aL 3 cL := hvL
  obtain ⟨gL, oL, vC0, vP0, vA0, vT0, vK0, rfl, hgL, _, -, -, ⟨_, _, _, _, l4, _, _, _, _, _⟩, -, _, _, _, _, _⟩ := Lns.at_ hL 0 _ rfl
  obtain ⟨_, _, _, _, _, _, _, e1, _, _, -, -, ⟨_, _, _, _, m4, _, _, _, _, _⟩, -, _, _, _, _, _⟩ := Lns.at_ hL 1 _ rfl
  cases e1
  have b9' : w8.cell? ⟨gB, oB + 9, none⟩ = some (.slice (some ⟨gL, oL, none⟩) 3 cL) := by rw [Nat.zero_mul, Nat.add_zero] at b9; exact b9
  have l4' : w8.cell? ⟨gL, oL + 4, none⟩ = some (.string (bs [105, 120, 45, 50])) := by rw [Nat.zero_mul, Nat.add_zero] at l4; exact l4
  have m4' : w8.cell? ⟨gL, oL + 10 + 4, none⟩ = some (.string (bs [105, 120, 45, 51])) := by rw [Nat.one_mul] at m4; exact m4
  clear b9 l4 m4 hL
  go_wp2_with fail
  refine (of_any 2 1 aM 0 cM _ _ _ zeroC dB w8 (HG.out.kept HK8.out) (HB8.out.mono (fun g h _ => h)) ⟨Prs.none_ _, Strs.none_ _⟩ SmallC.zero smAB.1 smAB.2.1 smAB.2.2.1 smAB.2.2.2.1 smAB.2.2.2.2).mono ?_
  rintro e w9 ⟨vE, rfl, hE, hk9⟩
  rw [entsA] at hE
  obtain ⟨aE, cE, hvE, lE⟩ := hE.form
  obtain rfl : vE = .slice aE 3 cE := hvE
  obtain ⟨gE, oE, cs0, rfl, hgE, _, -, hc0, ⟨vR0, hw0, hS0, -⟩, -, -⟩ := RowR.at_ hE 0 _ rfl
  obtain ⟨_, _, cs1, e1, _, _, -, hc1, ⟨vR1, hw1, -, -⟩, -, -⟩ := RowR.at_ hE 1 _ rfl
  cases e1
  obtain ⟨_, _, cs2, e1, _, _, -, hc2, ⟨vR2, hw2, -, -⟩, -, -⟩ := RowR.at_ hE 2 _ rfl
  cases e1
  obtain ⟨aR0, cR0, hvR, lR0⟩ := hS0.shape
  obtain rfl : vR0 = .slice aR0 1 cR0 := hvR
  rw [hw0] at hc0
  rw [hw1] at hc1
  rw [hw2] at hc2
  have t0 : w9.cell? ⟨gE, oE + 2, none⟩ = some (.string (bs [97])) := by have h := hc0 2 _ rfl; rw [Nat.zero_mul, Nat.add_zero] at h; exact h
  have r0 : w9.cell? ⟨gE, oE + 4, none⟩ = some (.slice aR0 1 cR0) := by have h := hc0 4 _ rfl; rw [Nat.zero_mul, Nat.add_zero] at h; exact h
  have u0 : w9.cell? ⟨gE, oE + 5, none⟩ = some (.int .i64 2) := by have h := hc1 0 _ rfl; rw [Nat.one_mul, Nat.add_zero] at h; exact h
  have t1 : w9.cell? ⟨gE, oE + 5 + 2, none⟩ = some (.string (bs [120])) := by have h := hc1 2 _ rfl; rw [Nat.one_mul] at h; exact h
  have t2 : w9.cell? ⟨gE, oE + 10 + 2, none⟩ = some (.string (bs [98])) := hc2 2 _ rfl
  have HK9 := Lib.hid (HK8.out.trans hk9)
  have HA9 := Lib.hid (HA8.out.kept hk9)
  have HD9 := Lib.hid (HD8.out.kept hk9)
  have y0 : w9.cell? ⟨L + 1 + 1, 0, none⟩ = some (.slice none 0 0) := HD9.out.cell 0 _ rfl
  have y1 : w9.cell? ⟨L + 1 + 1, 1, none⟩ = some (.slice (some ⟨L + 1, 0, none⟩) 2 2) := HD9.out.cell 1 _ rfl
  have yz := HD9.out.lt
  clear hc0 hc1 hc2 hS0 hE hk9 b9' l4' m4' x0 x1 xz HMD HB8 HK8 HD8 HA8
  go_wp2_with fail
  refine (ifill_any 2 1 (Nat.le_refl _) (.slice none 0 0) _ (.slice none 0 0) (.slice none 0 0) [] zeroC dA w9 (HG.out.kept HK9.out) (tab_kept HTB.out HK9.out) (Prs.none_ _) (by simp) (HA9.out.mono (fun g h _ => h)) ⟨Prs.none_ _, Strs.none_ _⟩ SmallC.zero (by decide) smA.okB smA.okW (Nat.le_trans smA.inls (by decide)) (Nat.le_trans smA.list (by decide))
    (smA.all zeroC).1 (smA.all zeroC).2.1 (smA.all zeroC).2.2.1 (smA.all zeroC).2.2.2.1 (smA.all zeroC).2.2.2.2.1 (smA.all zeroC).2.2.2.2.2.1 (smA.all zeroC).2.2.2.2.2.2).mono ?_
  rintro e w10 ⟨v1, v2, ys, rfl, hp10, hb10, -, hsg, -, hk10⟩
  rw [sigA] at hsg
  obtain ⟨hyl, hys⟩ := hsg
  obtain ⟨ya, yb, rfl⟩ : ∃ ya yb, ys = [ya, yb] := by
    match ys, hyl with
    | [a, b], _ => exact ⟨a, b, rfl⟩
  obtain ⟨hyk, hyn⟩ := hys 1 yb (7, 2) rfl rfl
  have hyn := hyn (by decide)
  obtain ⟨aM1, cM1, hvM, lM1⟩ := hp10.shape
  obtain rfl : v1 = .slice aM1 0 cM1 := hvM
  obtain ⟨aZ, cZ, hvZ, lZ⟩ := hb10.form
  obtain rfl : v2 = .slice aZ 2 cZ := hvZ
  have hka := kept_alloc w10 (.cells #[.slice aM1 0 cM1, .slice aZ 2 cZ] 25)
  have hmd := Blk.new w10 25 #[.slice aM1 0 cM1, .slice aZ 2 cZ]
  obtain ⟨Y, HY⟩ : ∃ X, Hid (w10.heap.size = X) := ⟨_, rfl⟩
  rw [HY.out] at hmd
  have HMD := Lib.hid hmd
  have HB11 := Lib.hid (hb10.kept hka)
  have HK11 := Lib.hid ((HK9.out.trans hk10).trans hka)
  clear hmd hka hk10 hp10 hb10 HK9 HD9 HA9 hys hyl t0 r0 u0 t1 t2 y0 y1 yz
  go_upto_region 9 with fail
  rw [HY.out]
  generalize w10.alloc (.cells #[.slice aM1 0 cM1, .slice aZ 2 cZ] 25) = w11 at *
  have x1 : w11.cell? ⟨Y, 1, none⟩ = some (.slice aZ 2 cZ) := HMD.out.cell 1 _ rfl
  have xz := HMD.out.lt
  obtain ⟨gZ, oZ, vCz, vPz, vLz, vKz, rfl, hgZ, _, -, -, ⟨z0, _, _, _, _, _, _, _, _, _, z10⟩, -, _, _, _, hKz⟩ := Bls.at_ HB11.out 1 _ rfl
  obtain ⟨aKz, cKz, hvK, lK⟩ := hKz.form
  rw [hyn] at hvK
  obtain rfl : vKz = .slice aKz 2 cKz := hvK
  have z0' : w11.cell? ⟨gZ, oZ + 11, none⟩ = some (.int .i64 7) := by rw [Nat.one_mul, hyk] at z0; exact z0
  have z10' : w11.cell? ⟨gZ, oZ + 11 + 10, none⟩ = some (.slice aKz 2 cKz) := by rw [Nat.one_mul] at z10; exact z10
  clear z0 z10 hKz HB11 HMD hyk hyn lK
  go_wp2_with fail
  (try go_ret)
  exact ⟨rfl, HK11.out⟩
end Go.Proofs.YtnbhpmleboildaaGreatDoor

/- few of law26: where it answers true, the collation is small. Conditions: lengths that a machine can tell. -/
set_option linter.all false
namespace Go.Proofs.YtnbhpmleboildaaGreatDoor
open Go.RowKit

set_option maxRecDepth 100000 in
set_option maxHeartbeats 6400000 in
theorem few_any (vR vO : Value) (c : ColT) (w : World) (hv : Col w vR vO c) (hf : FitC c) :
    Calls Tryz.prog 6 #[colV vR vO c.ignore] w fun e w' => ShortP c e ∧ Kept w w' := by
  obtain ⟨f1, f2, f3, f4, f5⟩ := hf
  have HF4 := Lib.hid f4
  have HF5 := Lib.hid f5
  clear f4 f5
  obtain ⟨hR, hO⟩ := hv
  have HR := Lib.hid hR
  have HO := Lib.hid hO
  obtain ⟨aR, cR, rfl, lR⟩ := hR.form
  obtain ⟨aO, cO, rfl, lO⟩ := hO.form
  clear hR hO
  have HB1 := Lib.hid (Blk.new w 28 #[.slice aR c.ranks.length cR, .slice aO c.order.length cO, .string (bs c.ignore)])
  have HK := Lib.hid (kept_alloc w (.cells #[.slice aR c.ranks.length cR, .slice aO c.order.length cO, .string (bs c.ignore)] 28))
  by_cases q1 : 60 < c.order.length
  · go_enter Tryz.func6, Tryz.ntmps6
    go_wp2_with fail
    (try go_ret)
    exact ⟨.no c, HK.out⟩
  by_cases q2 : 60 < c.ranks.length
  · go_enter Tryz.func6, Tryz.ntmps6
    go_wp2_with fail
    (try go_ret)
    exact ⟨.no c, HK.out⟩
  by_cases q3 : 100 < c.ignore.length
  · go_enter Tryz.func6, Tryz.ntmps6
    go_wp2_with fail
    (try go_ret)
    exact ⟨.no c, HK.out⟩
  go_enter Tryz.func6, Tryz.ntmps6
  go_wp2_with fail
  generalize w.alloc (.cells #[.slice aR c.ranks.length cR, .slice aO c.order.length cO, .string (bs c.ignore)] 28) = w0 at *
  generalize w.heap.size = B at *
  have b0 : w0.cell? ⟨B, 0, none⟩ = some (.slice aR c.ranks.length cR) := HB1.out.cell 0 _ rfl
  have b1 : w0.cell? ⟨B, 1, none⟩ = some (.slice aO c.order.length cO) := HB1.out.cell 1 _ rfl
  have z1 := HB1.out.lt
  go_loopw [3] (fun i wr => ∃ (k : Nat), k ≤ c.order.length ∧ i = .int .i64 k ∧ Hid (∀ s ∈ c.order.take k, s.length ≤ 20) ∧ w0 = wr) (fun i _ => c.order.length - (intOf i).toNat)
  case atStart => exact ⟨0, Nat.zero_le _, rfl, by show ∀ s ∈ _, _; simp, rfl⟩
  case round =>
    obtain ⟨k, hk, rfl, HT, rfl⟩ := hrel
    by_cases hlt : k < c.order.length
    · obtain ⟨x, hx⟩ : ∃ x, c.order[k]? = some x := ⟨_, List.getElem?_eq_getElem hlt⟩
      obtain ⟨g, o, rfl, hg, d0, -, -⟩ := (HO.out.kept HK.out).cell_of k x hx
      have hp := HF4.out x (List.mem_of_getElem? hx)
      by_cases hb : 20 < x.length
      · clear hx
        go_wp2_with fail
        (try go_ret)
        exact ⟨.no c, HK.out⟩
      · have HT3 : Hid (∀ s ∈ c.order.take (k + 1), s.length ≤ 20) := by
          show ∀ s ∈ _, _
          intro t ht
          rw [take_snoc hx] at ht
          rcases List.mem_append.1 ht with h | h
          · exact HT.out t h
          · rw [List.mem_singleton.1 h]; omega
        clear hx HT
        go_wp2_with fail
        go_roundw
        case rel => exact ⟨k + 1, by omega, by go_num, HT3, by first | rfl | trivial⟩
        case measure => simp [intOf]; omega
    · have HT2 : Hid (∀ s ∈ c.order, s.length ≤ 20) := by
        show ∀ s ∈ _, _
        have h := HT.out
        rw [List.take_of_length_le (by omega)] at h; exact h
      clear HT
      go_wp2_with fail
      go_loopw [4] (fun i wr => ∃ (k : Nat), k ≤ c.ranks.length ∧ i = .int .i64 k ∧ Hid (∀ s ∈ c.ranks.take k, s.1.length ≤ 20 ∧ s.2.length ≤ 20) ∧ w0 = wr) (fun i _ => c.ranks.length - (intOf i).toNat)
      case atStart => exact ⟨0, Nat.zero_le _, rfl, by show ∀ s ∈ _, _; simp, rfl⟩
      case round =>
        obtain ⟨j, hj, rfl, HS, rfl⟩ := hrel
        by_cases hlt2 : j < c.ranks.length
        · obtain ⟨x, hx⟩ : ∃ x, c.ranks[j]? = some x := ⟨_, List.getElem?_eq_getElem hlt2⟩
          obtain ⟨g, o, rfl, hg, d0, d1, -, -⟩ := (HR.out.kept HK.out).cell_of j x hx
          obtain ⟨hp1, hp2⟩ := HF5.out x (List.mem_of_getElem? hx)
          by_cases hb1 : 20 < x.1.length
          · obtain ⟨y, z⟩ := x
            simp only at d0 d1 hp1 hp2 hb1
            clear hx
            go_wp2_with fail
            (try go_ret)
            exact ⟨.no c, HK.out⟩
          by_cases hb2 : 20 < x.2.length
          · obtain ⟨y, z⟩ := x
            simp only at d0 d1 hp1 hp2 hb1 hb2
            clear hx
            go_wp2_with fail
            (try go_ret)
            exact ⟨.no c, HK.out⟩
          have HT3 : Hid (∀ s ∈ c.ranks.take (j + 1), s.1.length ≤ 20 ∧ s.2.length ≤ 20) := by
            show ∀ s ∈ _, _
            intro t ht
            rw [take_snoc hx] at ht
            rcases List.mem_append.1 ht with h | h
            · exact HS.out t h
            · rw [List.mem_singleton.1 h]; constructor <;> omega
          obtain ⟨y, z⟩ := x
          simp only at d0 d1 hp1 hp2 hb1 hb2
          clear hx HS
          go_wp2_with fail
          go_roundw
          case rel => exact ⟨j + 1, by omega, by go_num, HT3, by first | rfl | trivial⟩
          case measure => simp [intOf]; omega
        · have HS2 : Hid (∀ s ∈ c.ranks, s.1.length ≤ 20 ∧ s.2.length ≤ 20) := by
            show ∀ s ∈ _, _
            have h := HS.out
            rw [List.take_of_length_le (by omega)] at h; exact h
          have HSM : Hid (SmallC c) := ⟨by omega, by omega, by omega, fun s hs => Nat.le_trans (HT2.out s hs) (by decide), fun p hp => ⟨Nat.le_trans (HS2.out p hp).1 (by decide), Nat.le_trans (HS2.out p hp).2 (by decide)⟩⟩
          clear HS
          go_wp2_with fail
          (try go_ret)
          exact ⟨⟨true, rfl, fun _ => HSM.out⟩, HK.out⟩
end Go.Proofs.YtnbhpmleboildaaGreatDoor

/- Regions that draw their order, by facts, where the last operation's slot is read before. No condition. -/
set_option linter.all false
namespace Go.Proofs.YtnbhpmleboildaaGreatDoor
open Go.RowKit

/-- The slots of what has not been done are as they were. -/
def Late (n : Nat) (D : Nat → Option Nat) (L : Array Bool) (a0 a : Act) : Prop := ∀ i d, i < n → D i = some d → ¬ On L i → a.tmps[d]? = a0.tmps[d]?
theorem Late.eval {n : Nat} {D : Nat → Option Nat} {L : Array Bool} {a0 a : Act} (h : Late n D L a0 a) (i d : Nat) (hi : i < n) (hd : D i = some d) (ho : ¬ On L i) : a.eval (.tmp d) = a0.eval (.tmp d) := by
  show a.tmps.getD d undef = a0.tmps.getD d undef
  rw [Array.getD_eq_getD_getElem?, Array.getD_eq_getD_getElem?, h i d hi hd ho]
theorem Late.put {n : Nat} {D : Nat → Option Nat} {L : Array Bool} {a0 a : Act} (h : Late n D L a0 a) (i : Nat) (hi : i < n) (hinj : ∀ j d, j < n → D i = some d → D j = some d → j = i) (hL : i < L.size) (v : Value) : Late n D (L.setIfInBounds i true) a0 (a.put (D i) v) := by
  intro j d hj hd ho
  have hji : j ≠ i := fun e => ho (by rw [e]; exact on_same hL)
  have h0 := h j d hj hd (fun q => ho (on_mono q))
  cases hdi : D i with
  | none => exact h0
  | some e =>
    have hne : e ≠ d := fun q => hji (hinj j d hj (by rw [hdi, q]) hd)
    show (a.tmps.setIfInBounds e v)[d]? = _
    rw [Array.getElem?_setIfInBounds_ne hne]; exact h0
section
variable {P : Program} {ops : Array Oper} {Q : Exit → Act → World → Prop}
/-- Between the operations: the values that have been made, and what is known of them. -/
def FacIL (n s : Nat) (D : Nat → Option Nat) (ea : List Nat) (dep : Nat → List Nat) (F : Nat → (Nat → Value) → World → Prop) (G : World → Prop) (Fin : (Nat → Value) → World → Prop) (a0 : Act) (L : Array Bool) (a : Act) (w : World) : Prop :=
  L.size = n ∧ ∃ V, Slots n D V L a0 a ∧ Late n D L a0 a ∧ (∀ j, j < n → On L j → ∀ i ∈ dep j, On L i) ∧ (¬ On L s → G w ∧ ∀ j, j < n → On L j → F j V w) ∧ (On L s → Fin V w ∧ (∀ i ∈ ea, On L i) ∧ ∀ j, j < n → On L j → j ≠ s → j ∉ ea → F j V w)
/-- A region that draws its order: s is its last store; what need not go ahead of it makes values alone. -/
theorem wp_region_factsL {id : Nat} {a : Act} {w : World} (n s m : Nat) (ea dep : Array (List Nat)) (hc : facB ops n s ea dep m = true) (hm : P.follows .mixedOrders = true) (hz : m ≤ a.tmps.size)
    (F : Nat → (Nat → Value) → World → Prop) (G : World → Prop) (St : World → World → Prop) (Fin : (Nat → Value) → World → Prop)
    (hloc : ∀ j, j < n → ∀ V V' w, (∀ i, i = j ∨ i ∈ dep.getD j [] → V i = V' i) → F j V w → F j V' w)
    (hfin : ∀ V V' w, (∀ i, i = s ∨ i ∈ ea.getD 0 [] → V i = V' i) → Fin V w → Fin V' w)
    (hst : ∀ j, j < n → j ≠ s → ∀ V w w', F j V w → St w w' → F j V w')
    (hfree : ∀ j, j < n → j ≠ s → j ∉ ea.getD 0 [] → ∀ V w w', F j V w → F j V w')
    (hG0 : G w.drew)
    (hstep : ∀ i, i < n → i ≠ s → ∀ V a' w', G w' → (∀ j ∈ dep.getD i [], F j V w' ∧ ∀ d, dstB ops j = some d → a'.eval (.tmp d) = V j) → (∀ t, (∀ j, j < n → dstB ops j ≠ some t) → a'.eval (.tmp t) = a.eval (.tmp t)) → (∀ d, dstB ops s = some d → a'.eval (.tmp d) = a.eval (.tmp d)) →
      ∀ K : Act → World → Prop, (∀ v w'', St w' w'' → G w'' → F i (upd V i v) w'' → K (a'.put (dstB ops i) v) w'') → wpOp P ops Q i K a' w')
    (hlast : ∀ V a' w', G w' → (∀ j ∈ ea.getD 0 [], F j V w' ∧ ∀ d, dstB ops j = some d → a'.eval (.tmp d) = V j) → (∀ t, (∀ j, j < n → dstB ops j ≠ some t) → a'.eval (.tmp t) = a.eval (.tmp t)) →
      ∀ K : Act → World → Prop, (∀ v w'', Fin (upd V s v) w'' → K (a'.put (dstB ops s) v) w'') → wpOp P ops Q s K a' w')
    (hafter : ∀ i, i < n → i ≠ s → i ∉ ea.getD 0 [] → ∀ V a' w', Fin V w' → (∀ j ∈ dep.getD i [], (j ≠ s → j ∉ ea.getD 0 [] → F j V w') ∧ ∀ d, dstB ops j = some d → a'.eval (.tmp d) = V j) →
      ∀ K : Act → World → Prop, (∀ v, F i (upd V i v) w' → K (a'.put (dstB ops i) v) w') → wpOp P ops Q i K a' w')
    (hend : ∀ V w', Fin V w' → (∀ j, j < n → j ≠ s → j ∉ ea.getD 0 [] → F j V w') → Q .normal (putAll (dstB ops) V n a) w') :
    (Code.region id ops true).wp P Q a w := by
  obtain ⟨hn, hs, hac⟩ := facB_ac hc
  have hO : ∀ i, i < n → ∃ o, ops[i]? = some o := fun i hi => ⟨_, Array.getElem?_eq_getElem (by rw [hn]; exact hi)⟩
  have hdo : ∀ {i : Nat} {o : Oper}, ops[i]? = some o → dstB ops i = o.dst := fun h => by unfold dstB; rw [h]; rfl
  have hinj : ∀ i j d, i < n → j < n → dstB ops i = some d → dstB ops j = some d → j = i := fun i j d hi hj h1 h2 => by
    obtain ⟨o, ho⟩ := hO i hi
    exact ((facB_ops hc ho).2 d (by rw [← hdo ho]; exact h1)).2 j hj h2
  have hlt : ∀ i d, i < n → dstB ops i = some d → d < a.tmps.size := fun i d hi h1 => by
    obtain ⟨o, ho⟩ := hO i hi
    exact Nat.lt_of_lt_of_le ((facB_ops hc ho).2 d (by rw [← hdo ho]; exact h1)).1 hz
  subst hn
  generalize hD : dstB ops = D at *
  generalize hE : ea.getD 0 [] = E at *
  refine wp_region_inv (FacIL ops.size s D E (fun i => dep.getD i []) F G Fin a) hm (ac_of hac) ?_ ?_ ?_
  · have hno : ∀ i, ¬ On (Array.replicate ops.size false) i := fun i => not_on_start ops.size i
    exact ⟨by simp, fun _ => undef, Slots.start _ _ _ _ _, fun _ _ _ _ _ => rfl, fun j _ h => absurd h (hno j), fun _ => ⟨hG0, fun j _ h => absurd h (hno j)⟩, fun h => absurd h (hno s)⟩
  · intro L a1 w1 ⟨hsz, V, S, _, _, _, h4⟩ hall
    have hon : ∀ i, i < ops.size → On L i := fun i hi => by
      have := hall i hi
      unfold On
      rw [Array.getD_eq_getD_getElem?, Array.getElem?_eq_getElem (by omega)] at this ⊢
      exact this
    rw [slots_all S hinj hlt hon]
    exact hend V w1 (h4 (hon s hs)).1 fun j hj q1 q2 => (h4 (hon s hs)).2.2 j hj (hon j hj) q1 q2
  · intro L a1 w1 i ⟨hsz, V, S, SL, h2, h3, h4⟩ hi hn hed
    obtain ⟨o, ho⟩ := hO i hi
    have n0 := not_on hn
    have hdon : ∀ j ∈ dep.getD i [], On L j ∧ j ≠ i ∧ j < ops.size := fun j hj => by
      obtain ⟨q1, q0, e, he, hb, q⟩ := (facB_ops hc ho).1 j hj
      have h5 := hed o ho e he hb
      refine ⟨?_, q1, q0⟩
      rcases q with rfl | q
      · exact h5
      · have hlt2 : e.on < ops.size := by
          have := ac_of hac i o ho e he hb; omega
        exact h2 e.on hlt2 h5 j q
    have hev : ∀ j, j < ops.size → On L j → ∀ d, D j = some d → a1.eval (.tmp d) = V j := fun j hj h d hd => S.eval j d hj hd h
    have hrest : ∀ t, (∀ j, j < ops.size → D j ≠ some t) → a1.eval (.tmp t) = a.eval (.tmp t) := fun t ht => S.ext t ht
    have hput : ∀ v, Slots ops.size D (upd V i v) (L.setIfInBounds i true) a (a1.put (D i) v) := fun v => S.put i hi (by omega) (fun j d hj h5 h6 => hinj i j d hi hj h5 h6) (fun d hd => hlt i d hi hd) v (fun _ => (upd_same V i v).symm) (fun j _ hj => (upd_ne (fun e => n0 (by rw [← e]; exact hj))).symm)
    have hlate : ∀ v, Late ops.size D (L.setIfInBounds i true) a (a1.put (D i) v) := fun v => SL.put i hi (fun j d hj h5 h6 => hinj i j d hi hj h5 h6) (by omega) v
    have hcl : ∀ j, j < ops.size → On (L.setIfInBounds i true) j → ∀ k ∈ dep.getD j [], On (L.setIfInBounds i true) k := fun j hj h k hk => by
      rcases on_set h with rfl | q
      · exact on_mono (hdon k hk).1
      · exact on_mono (h2 j hj q k hk)
    have hFl : ∀ v w2 j, j < ops.size → On L j → F j V w2 → F j (upd V i v) w2 := fun v w2 j hj q h6 => by
      refine hloc j hj V (upd V i v) w2 (fun k hk => (upd_ne ?_).symm) h6
      rintro rfl
      rcases hk with rfl | hk
      · exact n0 q
      · exact n0 (h2 j hj q k hk)
    by_cases his : i = s
    · subst his
      obtain ⟨hG, hFs⟩ := h3 n0
      have hall : ∀ j ∈ E, j < ops.size ∧ On L j ∧ j ≠ i := fun j hj => by
        obtain ⟨q, e, he, hb, rfl⟩ := facB_ea hc (by rw [hE]; exact hj) ho
        exact ⟨by omega, hed o ho e he hb, by omega⟩
      refine hlast V a1 w1 hG (fun j hj => ⟨hFs j (hall j hj).1 (hall j hj).2.1, hev j (hall j hj).1 (hall j hj).2.1⟩) hrest _ (fun v w2 k1 => ?_)
      refine ⟨by rw [Array.size_setIfInBounds]; exact hsz, upd V i v, hput v, hlate v, hcl, fun h => absurd (on_same (by omega)) h, fun _ => ⟨k1, fun j hj => on_mono (hall j hj).2.1, fun j hj h q1 q2 => ?_⟩⟩
      rcases on_set h with q | q
      · exact absurd q q1
      · exact hFl v w2 j hj q (hfree j hj q1 q2 V w1 w2 (hFs j hj q))
    · have hso : On (L.setIfInBounds i true) s → On L s := fun h => by
        rcases on_set h with q | q
        · exact absurd q.symm his
        · exact q
      by_cases hos : On L s
      · obtain ⟨hF, hEa, hFr⟩ := h4 hos
        have hiE : i ∉ E := fun q => n0 (hEa i q)
        refine hafter i hi his hiE V a1 w1 hF (fun j hj => ⟨fun q1 q2 => hFr j (hdon j hj).2.2 (hdon j hj).1 q1 q2, hev j (hdon j hj).2.2 (hdon j hj).1⟩) _ (fun v k1 => ?_)
        refine ⟨by rw [Array.size_setIfInBounds]; exact hsz, upd V i v, hput v, hlate v, hcl, fun h => absurd (on_mono hos) h, fun _ => ⟨hfin V _ w1 (fun k hk => (upd_ne ?_).symm) hF, fun j hj => on_mono (hEa j hj), fun j hj h q1 q2 => ?_⟩⟩
        · rintro rfl
          rcases hk with q | q
          · exact his q
          · exact hiE q
        · rcases on_set h with rfl | q
          · exact k1
          · exact hFl v w1 j hj q (hFr j hj q q1 q2)
      · obtain ⟨hG, hFs⟩ := h3 hos
        refine hstep i hi his V a1 w1 hG (fun j hj => ⟨hFs j (hdon j hj).2.2 (hdon j hj).1, hev j (hdon j hj).2.2 (hdon j hj).1⟩) hrest (fun d hd => SL.eval s d hs hd hos) _ (fun v w2 k1 k2 k3 => ?_)
        refine ⟨by rw [Array.size_setIfInBounds]; exact hsz, upd V i v, hput v, hlate v, hcl, fun _ => ⟨k2, fun j hj h => ?_⟩, fun h => absurd (hso h) hos⟩
        rcases on_set h with rfl | q
        · exact k3
        · exact hFl v w2 j hj q (hst j hj (fun e => hos (e ▸ q)) V w1 w2 (hFs j hj q) k1)
end
end Go.Proofs.YtnbhpmleboildaaGreatDoor

/- The region of publisherref04.heavy that counts a block's inlines and its inner blocks: it draws its order. Conditions: what the walk knows ahead of it. -/
set_option linter.all false
namespace Go.Proofs.YtnbhpmleboildaaGreatDoor
open Go.RowKit

def f10 (vL vK : Value) (B d : Nat) (r : Int) (PA PB : Int → Prop) : Nat → (Nat → Value) → World → Prop
  | 0, V, _ => V 0 = .int .i64 r
  | 1, V, _ => V 1 = .pointer (some ⟨B, 9, none⟩)
  | 2, V, _ => V 2 = vL
  | 3, V, _ => ∃ r1, V 3 = .int .i64 r1 ∧ PA r1
  | 4, V, _ => V 4 = .pointer (some ⟨B, 10, none⟩)
  | 5, V, _ => V 5 = vK
  | 6, V, _ => V 6 = .int .i64 (d : Int)
  | 7, V, _ => V 7 = .int .i64 ((d : Int) + 1)
  | 8, V, _ => ∃ r2, V 8 = .int .i64 r2 ∧ PB r2
  | 9, V, _ => ∃ r1 r2, V 9 = .int .i64 (r1 + r2) ∧ PA r1 ∧ PB r2
  | 10, V, _ => ∃ r1 r2, V 10 = .int .i64 (r + (r1 + r2)) ∧ PA r1 ∧ PB r2
  | _, _, _ => True
set_option maxRecDepth 100000 in
set_option maxHeartbeats 3200000 in
theorem hreg10 {ops : Array Oper} {id : Nat} {a : Act} {wr : World} {Q : Exit → Act → World → Prop} (vL vK : Value) (B d : Nat) (r : Int) (PA PB : Int → Prop)
    (hc : facB ops 12 11 #[[0, 1, 2, 3, 4, 5, 6, 7, 8, 9, 10]] #[[], [], [1], [2], [], [4], [], [6], [5, 7], [3, 8], [0, 9], [10]] 63 = true)
    (p0 : OpAt ops 0 (.move (.tmp 5)) (some 51)) (p1 : OpAt ops 1 (.fieldAddr 38 (.tmp 7) 7) (some 52)) (p2 : OpAt ops 2 (.load 36 (.tmp 52)) (some 53))
    (p3 : OpAt ops 3 (.call { callee := .value (.func 27), args := #[.tmp 53, .const (.int .i64 0)], argTypes := #[36, 3] }) (some 54))
    (p4 : OpAt ops 4 (.fieldAddr 38 (.tmp 7) 8) (some 55)) (p5 : OpAt ops 5 (.load 23 (.tmp 55)) (some 56)) (p6 : OpAt ops 6 (.move (.tmp 1)) (some 57))
    (p7 : OpAt ops 7 (.binOp .add 3 (.tmp 57) (.const (.int .i64 1)) 3) (some 58))
    (p8 : OpAt ops 8 (.call { callee := .value (.func 13), args := #[.tmp 56, .tmp 58], argTypes := #[23, 3] }) (some 59))
    (p9 : OpAt ops 9 (.binOp .add 3 (.tmp 54) (.tmp 59) 3) (some 60)) (p10 : OpAt ops 10 (.binOp .add 3 (.tmp 51) (.tmp 60) 3) (some 61)) (p11 : OpAt ops 11 (.assign (.tmp 61)) (some 5))
    (hz : 63 ≤ a.tmps.size) (h5 : a.eval (.tmp 5) = .int .i64 r) (h7 : a.eval (.tmp 7) = .pointer (some ⟨B, 0, none⟩)) (h1 : a.eval (.tmp 1) = .int .i64 (d : Int)) (hd : d ≤ 21) (hr : 0 ≤ r ∧ r < 1000)
    (hB : B < wr.heap.size) (c9 : wr.cell? ⟨B, 9, none⟩ = some vL) (c10 : wr.cell? ⟨B, 10, none⟩ = some vK)
    (hPA : ∀ z, PA z → 0 ≤ z ∧ z ≤ 10000000000000000) (hPB : ∀ z, PB z → 0 ≤ z ∧ z ≤ 1000000000000000000)
    (HA : Hid (∀ w', Kept wr w' → Calls Tryz.prog 27 #[vL, .int .i64 0] w' fun e w'' => ∃ z, e = .returned (.int .i64 z) ∧ PA z ∧ Kept w' w''))
    (HB : Hid (∀ w', Kept wr w' → Calls Tryz.prog 13 #[vK, .int .i64 ((d : Int) + 1)] w' fun e w'' => ∃ z, e = .returned (.int .i64 z) ∧ PB z ∧ Kept w' w''))
    (hend : ∀ (V : Nat → Value) w' r1 r2, V 11 = .int .i64 (r + (r1 + r2)) → PA r1 → PB r2 → Kept wr w' → Q .normal ((((((((((((a.put (some 51) (V 0)).put (some 52) (V 1)).put (some 53) (V 2)).put (some 54) (V 3)).put (some 55) (V 4)).put (some 56) (V 5)).put (some 57) (V 6)).put (some 58) (V 7)).put (some 59) (V 8)).put (some 60) (V 9)).put (some 61) (V 10)).put (some 5) (V 11)) w') :
    (Code.region id ops true).wp Tryz.prog Q a wr := by
  have e0 := opAt_dst p0
  have e1 := opAt_dst p1
  have e2 := opAt_dst p2
  have e3 := opAt_dst p3
  have e4 := opAt_dst p4
  have e5 := opAt_dst p5
  have e6 := opAt_dst p6
  have e7 := opAt_dst p7
  have e8 := opAt_dst p8
  have e9 := opAt_dst p9
  have e10 := opAt_dst p10
  have e11 := opAt_dst p11
  refine wp_region_factsL 12 11 63 _ _ hc (by rfl) hz (f10 vL vK B d r PA PB) (fun w => Kept wr w ∧ True) Kept
    (fun V w => ∃ r1 r2, V 11 = .int .i64 (r + (r1 + r2)) ∧ PA r1 ∧ PB r2 ∧ Kept wr w) ?_ ?_ ?_ ?_ ?_ ?_ ?_ ?_ ?_
  · intro j hj V V' w hV h
    have hjj := hV j (.inl rfl)
    obtain rfl | rfl | rfl | rfl | rfl | rfl | rfl | rfl | rfl | rfl | rfl | rfl : j = 0 ∨ j = 1 ∨ j = 2 ∨ j = 3 ∨ j = 4 ∨ j = 5 ∨ j = 6 ∨ j = 7 ∨ j = 8 ∨ j = 9 ∨ j = 10 ∨ j = 11 := by omega
    all_goals (simp only [f10] at h ⊢; try (rw [← hjj]; exact h))
  · intro V V' w hV h
    rw [← hV 11 (.inl rfl)]; exact h
  · intro j hj hne V w w' h k
    obtain rfl | rfl | rfl | rfl | rfl | rfl | rfl | rfl | rfl | rfl | rfl : j = 0 ∨ j = 1 ∨ j = 2 ∨ j = 3 ∨ j = 4 ∨ j = 5 ∨ j = 6 ∨ j = 7 ∨ j = 8 ∨ j = 9 ∨ j = 10 := by omega
    all_goals exact h
  · intro j hj hne hni
    exfalso; apply hni
    have : j < 11 := by omega
    simp only [Array.getD, List.size_toArray]
    obtain rfl | rfl | rfl | rfl | rfl | rfl | rfl | rfl | rfl | rfl | rfl : j = 0 ∨ j = 1 ∨ j = 2 ∨ j = 3 ∨ j = 4 ∨ j = 5 ∨ j = 6 ∨ j = 7 ∨ j = 8 ∨ j = 9 ∨ j = 10 := by omega
    all_goals simp
  · exact ⟨kept_drewN wr 1, trivial⟩
  · intro i hi hne V a' w' hGG hF hR hS K hK
    have hG := hGG.1
    have q9 : w'.cell? ⟨B, 9, none⟩ = some vL := (hG.cell (p := ⟨B, 9, none⟩) hB).trans c9
    have q10 : w'.cell? ⟨B, 10, none⟩ = some vK := (hG.cell (p := ⟨B, 10, none⟩) hB).trans c10
    have hout : ∀ t, t = 1 ∨ t = 7 → ∀ j, j < 12 → dstB ops j ≠ some t := by
      intro t ht j hj
      obtain rfl | rfl | rfl | rfl | rfl | rfl | rfl | rfl | rfl | rfl | rfl | rfl : j = 0 ∨ j = 1 ∨ j = 2 ∨ j = 3 ∨ j = 4 ∨ j = 5 ∨ j = 6 ∨ j = 7 ∨ j = 8 ∨ j = 9 ∨ j = 10 ∨ j = 11 := by omega
      all_goals simp [e0, e1, e2, e3, e4, e5, e6, e7, e8, e9, e10, e11]
      all_goals omega
    have t7 := (hR 7 (hout 7 (.inr rfl))).trans h7
    have t1 := (hR 1 (hout 1 (.inl rfl))).trans h1
    have same : ∀ v, f10 vL vK B d r PA PB i (upd V i v) w' → K (a'.put (dstB ops i) v) w' := fun v h => hK v w' (Kept.refl _) hGG h
    obtain rfl | rfl | rfl | rfl | rfl | rfl | rfl | rfl | rfl | rfl | rfl : i = 0 ∨ i = 1 ∨ i = 2 ∨ i = 3 ∨ i = 4 ∨ i = 5 ∨ i = 6 ∨ i = 7 ∨ i = 8 ∨ i = 9 ∨ i = 10 := by omega
    · exact op_move p0 ((hS 5 e11).trans h5) (same _ (upd_same _ _ _))
    · refine opAt_value p1 (v := .pointer (some ⟨B, 9, none⟩)) (w' := w') (fun o1 ho => ?_) (same _ (upd_same _ _ _))
      simp only [execOp, ho, t7]; simp [go_sem, Tryz.underlying38]
    · have z0 := ((hF 1 (by simp)).2 _ e1).trans (hF 1 (by simp)).1
      refine opAt_value p2 (v := vL) (w' := w') (fun o1 ho => ?_) (same _ (upd_same _ _ _))
      simp only [execOp, ho, z0]; simp [go_sem, q9, Tryz.underlying36]
    · have z0 := ((hF 2 (by simp)).2 _ e2).trans (hF 2 (by simp)).1
      refine opAt_enter p3 (f := 27) (args := #[vL, .int .i64 0]) (w' := w') (fun o1 ho => ?_) ((HA.out w' hG).mono fun e w'' ⟨z, he, hp, hk⟩ => ⟨_, he, hK _ w'' hk ⟨hG.trans hk, trivial⟩ ⟨z, upd_same _ _ _, hp⟩⟩)
      simp only [execOp, ho, resolve, List.map_toArray, List.map_cons, List.map_nil, z0]; simp [go_sem]
    · refine opAt_value p4 (v := .pointer (some ⟨B, 10, none⟩)) (w' := w') (fun o1 ho => ?_) (same _ (upd_same _ _ _))
      simp only [execOp, ho, t7]; simp [go_sem, Tryz.underlying38]
    · have z0 := ((hF 4 (by simp)).2 _ e4).trans (hF 4 (by simp)).1
      refine opAt_value p5 (v := vK) (w' := w') (fun o1 ho => ?_) (same _ (upd_same _ _ _))
      simp only [execOp, ho, z0]; simp [go_sem, q10, Tryz.underlying23]
    · exact op_move p6 t1 (same _ (upd_same _ _ _))
    · have z0 := ((hF 6 (by simp)).2 _ e6).trans (hF 6 (by simp)).1
      refine opAt_value p7 (v := .int .i64 ((d : Int) + 1)) (w' := w') (fun o1 ho => ?_) (same _ (upd_same _ _ _))
      have hwrap : (IntKind.i64).wrap ((d : Int) + 1) = (d : Int) + 1 := by simp [IntKind.wrap, IntKind.signed, IntKind.bits]; omega
      simp only [execOp, ho, z0]; simp [go_sem, hwrap]
    · have z0 := ((hF 5 (by simp)).2 _ e5).trans (hF 5 (by simp)).1
      have z1 := ((hF 7 (by simp)).2 _ e7).trans (hF 7 (by simp)).1
      refine opAt_enter p8 (f := 13) (args := #[vK, .int .i64 ((d : Int) + 1)]) (w' := w') (fun o1 ho => ?_) ((HB.out w' hG).mono fun e w'' ⟨z, he, hp, hk⟩ => ⟨_, he, hK _ w'' hk ⟨hG.trans hk, trivial⟩ ⟨z, upd_same _ _ _, hp⟩⟩)
      simp only [execOp, ho, resolve, List.map_toArray, List.map_cons, List.map_nil, z0, z1]; simp [go_sem]
    · obtain ⟨⟨r1, y1, y2⟩, y3⟩ := hF 3 (by simp)
      obtain ⟨⟨r2, x1, x2⟩, x3⟩ := hF 8 (by simp)
      have z0 := (y3 _ e3).trans y1
      have z1 := (x3 _ e8).trans x1
      have b1 := hPA r1 y2
      have b2 := hPB r2 x2
      refine opAt_value p9 (v := .int .i64 (r1 + r2)) (w' := w') (fun o1 ho => ?_) (same _ ⟨r1, r2, upd_same _ _ _, y2, x2⟩)
      have hwrap : (IntKind.i64).wrap (r1 + r2) = r1 + r2 := by simp [IntKind.wrap, IntKind.signed, IntKind.bits]; omega
      simp only [execOp, ho, z0, z1]; simp [go_sem, hwrap]
    · obtain ⟨y1, y3⟩ := hF 0 (by simp)
      obtain ⟨⟨r1, r2, x1, x2, x4⟩, x3⟩ := hF 9 (by simp)
      have z0 := (y3 _ e0).trans y1
      have z1 := (x3 _ e9).trans x1
      have b1 := hPA r1 x2
      have b2 := hPB r2 x4
      refine opAt_value p10 (v := .int .i64 (r + (r1 + r2))) (w' := w') (fun o1 ho => ?_) (same _ ⟨r1, r2, upd_same _ _ _, x2, x4⟩)
      have hwrap : (IntKind.i64).wrap (r + (r1 + r2)) = r + (r1 + r2) := by simp [IntKind.wrap, IntKind.signed, IntKind.bits]; omega
      simp only [execOp, ho, z0, z1]; simp [go_sem, hwrap]
  · intro V a' w' hG hF hR K hK
    obtain ⟨⟨r1, r2, q1, q2, q3⟩, q4⟩ := hF 10 (by simp)
    have z0 := (q4 _ e10).trans q1
    exact op_assign p11 z0 (hK _ _ ⟨r1, r2, upd_same _ _ _, q2, q3, hG.1⟩)
  · intro i hi hne hni
    exfalso; apply hni
    have : i < 11 := by omega
    obtain rfl | rfl | rfl | rfl | rfl | rfl | rfl | rfl | rfl | rfl | rfl : i = 0 ∨ i = 1 ∨ i = 2 ∨ i = 3 ∨ i = 4 ∨ i = 5 ∨ i = 6 ∨ i = 7 ∨ i = 8 ∨ i = 9 ∨ i = 10 := by omega
    all_goals simp
  · intro V w' ⟨r1, r2, g1, g2, g3, g4⟩ _
    have := hend V w' r1 r2 g1 g2 g3 g4
    simp only [putAll, e0, e1, e2, e3, e4, e5, e6, e7, e8, e9, e10, e11]
    exact this
end Go.Proofs.YtnbhpmleboildaaGreatDoor
