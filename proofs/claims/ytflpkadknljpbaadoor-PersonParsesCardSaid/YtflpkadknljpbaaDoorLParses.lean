/- The law PersonParses answers true of every text. No condition. -/
import Derived.Test.YtflpkadknljpbaaDoorAwk
import Derived.Test.YtflpkadknljpbaaDoorRparseR
set_option linter.all false
namespace Go.Proofs.YtflpkadknljpbaaDoor
open Go.RowKit

set_option maxRecDepth 100000 in
set_option maxHeartbeats 3200000 in
theorem lparses_any (l : Bs) (w : World) (hg : Gnd w) (hl : l.length ≤ maxLen) : Calls Tryd.prog 3 #[.string (bs l)] w fun e w' => e = .returned (.bool true) ∧ Kept w w' := by
  unfold maxLen at hl
  have HG := Lib.hid hg
  clear hg
  by_cases h4 : l.length ≤ 400
  · have HP := Lib.hid (fun w hg => parse_any l w hg (by omega))
    have HR := Lib.hid (fun w => rparse_any l w (by omega))
    unfold ParsePost at HP HR
    generalize (parseR l).1 = n at *
    generalize (parseR l).2 = q at *
    obtain ⟨q1, q2, q3, q4⟩ := q
    go_enter Tryd.func3, Tryd.ntmps3
    go_wp2_with fail
    refine (HP.out _ HG.out).mono ?_
    rintro e w1 ⟨rfl, hk1⟩
    have HK1 := Lib.hid hk1
    clear hk1
    go_wp2_with fail
    refine (HR.out _).mono ?_
    rintro e w2 ⟨rfl, hk2⟩
    have HB := Lib.hid ((Blk.new w1 24 #[.string (bs q1), .string (bs q2), .string (bs q3), .string (bs q4)]).kept hk2)
    have HK2 := Lib.hid ((HK1.out.trans (kept_alloc _ _)).trans hk2)
    clear hk2
    have c0 : w2.cell? ⟨w1.heap.size, 0, none⟩ = some (.string (bs q1)) := HB.out.cell 0 _ rfl
    have c1 : w2.cell? ⟨w1.heap.size, 1, none⟩ = some (.string (bs q2)) := HB.out.cell 1 _ rfl
    have c2 : w2.cell? ⟨w1.heap.size, 2, none⟩ = some (.string (bs q3)) := HB.out.cell 2 _ rfl
    have c3 : w2.cell? ⟨w1.heap.size, 3, none⟩ = some (.string (bs q4)) := HB.out.cell 3 _ rfl
    have z1 := HB.out.lt
    go_wp2_with fail
    refine (awake_any _ (HG.out.kept (HK2.out.trans (kept_alloc _ _)))).mono ?_
    rintro e w3 ⟨rfl, hk3⟩
    have HK3 := Lib.hid ((HK2.out.trans (kept_alloc _ _)).trans hk3)
    clear hk3
    go_wp2_with fail
    go_ret
    exact ⟨rfl, HK3.out⟩
  · go_enter Tryd.func3, Tryd.ntmps3
    go_wp2_with fail
    refine (awake_any _ HG.out).mono ?_
    rintro e w1 ⟨rfl, hk1⟩
    have HK1 := Lib.hid hk1
    clear hk1
    go_wp2_with fail
    go_ret
    exact ⟨rfl, HK1.out⟩
end Go.Proofs.YtflpkadknljpbaaDoor
