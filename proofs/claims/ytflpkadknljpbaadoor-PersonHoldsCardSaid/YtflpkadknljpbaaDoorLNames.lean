/- The law PersonNames answers true of every person. No condition. -/
import Derived.Test.YtflpkadknljpbaaDoorLTexts
import Derived.Test.YtflpkadknljpbaaDoorRini2
import Derived.Deep.RegionHeld3
set_option linter.all false
namespace Go.Proofs.YtflpkadknljpbaaDoor
open Go.RowKit

/-- A later world in which the argument's own block is as it was. -/
def Good (w0 : World) (g : Nat) (q : P4) (w : World) : Prop := Kept w0 w ∧ Blk w g 24 #[.string (bs q.1), .string (bs q.2.1), .string (bs q.2.2.1), .string (bs q.2.2.2)]
theorem Good.next {w0 : World} {g : Nat} {q : P4} {a b : World} (h : Good w0 g q a) (k : Kept a b) : Good w0 g q b := ⟨h.1.trans k, h.2.kept k⟩
theorem Good.cells {w0 : World} {g : Nat} {f gv p s : Bs} {a : World} (h : Good w0 g (f, gv, p, s) a) : a.cell? ⟨g, 0, none⟩ = some (.string (bs f)) ∧ a.cell? ⟨g, 1, none⟩ = some (.string (bs gv)) ∧ a.cell? ⟨g, 2, none⟩ = some (.string (bs p)) ∧ a.cell? ⟨g, 3, none⟩ = some (.string (bs s)) ∧ g < a.heap.size :=
  ⟨h.2.cell 0 _ rfl, h.2.cell 1 _ rfl, h.2.cell 2 _ rfl, h.2.cell 3 _ rfl, h.2.lt⟩

theorem Good.all {w0 : World} {g : Nat} {f gv p s : Bs} {a : World} (h : Good w0 g (f, gv, p, s) a) : a.cell? ⟨g, 0, none⟩ = some (.string (bs f)) ∧ a.cell? ⟨g, 1, none⟩ = some (.string (bs gv)) ∧ a.cell? ⟨g, 2, none⟩ = some (.string (bs p)) ∧ a.cell? ⟨g, 3, none⟩ = some (.string (bs s)) ∧ Good w0 g (f, gv, p, s) a :=
  ⟨h.2.cell 0 _ rfl, h.2.cell 1 _ rfl, h.2.cell 2 _ rfl, h.2.cell 3 _ rfl, h⟩
set_option maxRecDepth 100000 in
set_option maxHeartbeats 12800000 in
theorem lnames_any (q : P4) (i : Bool) (w : World) (hg : Gnd w) (hq : Fit4 q) : Calls Tryd.prog 5 #[p4V q, .bool i] w fun e w' => e = .returned (.bool true) ∧ Kept w w' := by
  have HG := Lib.hid hg
  clear hg
  have HF := Lib.hid (fun w => few_any q w hq)
  cases hb : fewB q
  · rw [hb] at HF
    clear hb hq
    obtain ⟨a, b, c, d⟩ := q
    go_enter Tryd.func5, Tryd.ntmps5
    go_wp2_with fail
    refine (HF.out _).mono ?_
    rintro e w1 ⟨rfl, hk1⟩
    have HK1 := Lib.hid ((kept_alloc w _).trans hk1)
    clear hk1
    go_wp2_with fail
    refine (awake_any _ (HG.out.kept HK1.out)).mono ?_
    rintro e w2 ⟨rfl, hk2⟩
    have HK2 := Lib.hid (HK1.out.trans hk2)
    clear hk2
    go_wp2_with fail
    go_ret
    exact ⟨rfl, HK2.out⟩
  · rw [hb] at HF
    obtain ⟨l1, l2, l3, l4⟩ := few_lens q hb
    clear hb hq
    obtain ⟨a, b, c, d⟩ := q
    simp only at l1 l2 l3 l4
    have hbu : bulk [b, c, a, d] ≤ 1000 := by simp [bulk]; omega
    have hbu2 : bulk [c, a] ≤ 1000 := by simp [bulk]; omega
    have H18 := Lib.hid (fun w => full_any a b c d w (by omega))
    have H19 := Lib.hid (fun w => rfull_any a b c d w (by omega))
    have H20 := Lib.hid (fun w => short_any a b c d w (by omega))
    have H21 := Lib.hid (fun w => rshort_any a b c d w (by omega))
    have H22 := Lib.hid (fun w => initials_any a b c d w (by omega))
    have H23 := Lib.hid (fun w => rinitials_any a b c d w (by omega))
    have H24 := Lib.hid (fun w => inverted_any a b c d i w (by omega))
    have H25 := Lib.hid (fun w => rinverted_any a b c d i w (by omega))
    generalize joinedL [b, c, a, d] = n1 at *
    generalize joinedL [c, a] = n2 at *
    generalize initialsL b = n3 at *
    generalize invL a b c d i = n4 at *
    clear hbu hbu2 l1 l2 l3 l4
    go_enter Tryd.func5, Tryd.ntmps5
    go_wp2_with fail
    refine (HF.out _).mono ?_
    rintro e w1 ⟨rfl, hk1⟩
    have g0 : Good w w.heap.size (a, b, c, d) w1.drew := ⟨((kept_alloc w _).trans hk1).trans (kept_drewN w1 1), ((Blk.new w 24 #[.string (bs a), .string (bs b), .string (bs c), .string (bs d)]).kept hk1).kept (kept_drewN w1 1)⟩
    have HAW : Hid (∀ w', Good w w.heap.size (a, b, c, d) w' → Calls Tryd.prog 12 #[] w' fun e w2 => e = .returned (.bool true) ∧ Kept w' w2) := fun w' h => awake_any w' (HG.out.kept h.1)
    have HB := Lib.hid ((Blk.new w 24 #[.string (bs a), .string (bs b), .string (bs c), .string (bs d)]).kept hk1)
    clear hk1
    have c0 : w1.cell? ⟨w.heap.size, 0, none⟩ = some (.string (bs a)) := HB.out.cell 0 _ rfl
    have c1 : w1.cell? ⟨w.heap.size, 1, none⟩ = some (.string (bs b)) := HB.out.cell 1 _ rfl
    have c2 : w1.cell? ⟨w.heap.size, 2, none⟩ = some (.string (bs c)) := HB.out.cell 2 _ rfl
    have c3 : w1.cell? ⟨w.heap.size, 3, none⟩ = some (.string (bs d)) := HB.out.cell 3 _ rfl
    have z1 := HB.out.lt
    go_wp2_with fail
    go_region_held3 (fun w' => w'.cell? ⟨w.heap.size, 0, none⟩ = some (.string (bs a)) ∧ w'.cell? ⟨w.heap.size, 1, none⟩ = some (.string (bs b)) ∧ w'.cell? ⟨w.heap.size, 2, none⟩ = some (.string (bs c)) ∧ w'.cell? ⟨w.heap.size, 3, none⟩ = some (.string (bs d)) ∧ Good w w.heap.size (a, b, c, d) w')
      ((refine Good.all ?_; assumption))
      (first
        | (go_at_call 18; refine (H18.out _).mono ?_; rintro e w2 ⟨rfl, hk⟩; have g1 := g0.next hk; clear hk)
        | (go_at_call 19; refine (H19.out _).mono ?_; rintro e w3 ⟨rfl, hk⟩; have g2 := g1.next hk; clear hk)
        | (go_at_call 20; refine (H20.out _).mono ?_; rintro e w4 ⟨rfl, hk⟩; have g3 := g2.next hk; clear hk)
        | (go_at_call 21; refine (H21.out _).mono ?_; rintro e w5 ⟨rfl, hk⟩; have g4 := g3.next hk; clear hk)
        | (go_at_call 22; refine (H22.out _).mono ?_; rintro e w6 ⟨rfl, hk⟩; have g5 := g4.next hk; clear hk)
        | (go_at_call 23; refine (H23.out _).mono ?_; rintro e w7 ⟨rfl, hk⟩; have g6 := g5.next hk; clear hk)
        | (go_at_call 24; refine (H24.out _).mono ?_; rintro e w8 ⟨rfl, hk⟩; have g7 := g6.next hk; clear hk)
        | (go_at_call 25; refine (H25.out _).mono ?_; rintro e w9 ⟨rfl, hk⟩; have g8 := g7.next hk; clear hk)
        | (go_at_call 12; refine (HAW.out _ g8).mono ?_; rintro e w10 ⟨rfl, hk⟩; have g9 := g8.next hk; clear hk))
    all_goals
      go_wp2_with fail
      go_ret
      exact ⟨rfl, g9.1⟩
end Go.Proofs.YtflpkadknljpbaaDoor
