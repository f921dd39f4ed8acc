/- short of law27: where it answers true, the collation is small. Conditions: lengths that a machine can tell. -/
import Derived.Test.YthbnahagfojfbaaG24
import Derived.Test.YthbnahagfojfbaaG17
import Derived.Test.YthbnahagfojfbaaG18
import Derived.Test.YthbnahagfojfbaaG19

set_option linter.all false
namespace Go.Proofs.Ythbnahagfojfbaa
open Go.RowKit

/-- The answer of short. -/
def ShortP (c : ColT) (e : Ending) : Prop := ∃ b : Bool, e = .returned (.bool b) ∧ (b = true → SmallC c)
theorem ShortP.no (c : ColT) : ShortP c (.returned (.bool false)) := ⟨false, rfl, fun h => by cases h⟩
def MinL (m : Int) (s : Bs) : Prop := min (s.length : Int) 1000 ≤ m
theorem MinL.up {m m' : Int} {s : Bs} (h : MinL m s) (q : m ≤ m') : MinL m' s := Int.le_trans h q
set_option maxRecDepth 100000 in
set_option maxHeartbeats 6400000 in
theorem short_any (vR vO : Value) (c : ColT) (w : World) (hv : Col w vR vO c) (hf : FitC c) :
    Calls Try.prog 5 #[colV vR vO c.ignore] w fun e w' => ShortP c e ∧ Kept w w' := by
  obtain ⟨f1, f2, f3, f4, f5⟩ := hf
  have HF4 := Lib.hid f4
  have HF5 := Lib.hid f5
  clear f4 f5
  obtain ⟨hR, hO⟩ := hv
  have HR := Lib.hid hR
  have HO := Lib.hid hO
  obtain ⟨aR, cR, rfl, lR⟩ := hR.form
  obtain ⟨aO, cO, rfl, lO⟩ := hO.form
  clear hR hO
  have HB1 := Lib.hid (Blk.new w 26 #[.slice aR c.ranks.length cR, .slice aO c.order.length cO, .string (bs c.ignore)])
  have HK := Lib.hid (kept_alloc w (.cells #[.slice aR c.ranks.length cR, .slice aO c.order.length cO, .string (bs c.ignore)] 26))
  by_cases q1 : 60 < c.ranks.length
  · go_enter Try.func5, Try.ntmps5
    go_wp2_with fail
    go_ret
    exact ⟨.no c, HK.out⟩
  by_cases q2 : 60 < c.order.length
  · go_enter Try.func5, Try.ntmps5
    go_wp2_with fail
    go_ret
    exact ⟨.no c, HK.out⟩
  by_cases q3 : 200 < c.ignore.length
  · go_enter Try.func5, Try.ntmps5
    go_wp2_with fail
    go_ret
    exact ⟨.no c, HK.out⟩
  go_enter Try.func5, Try.ntmps5
  go_wp2_with fail
  generalize w.alloc (.cells #[.slice aR c.ranks.length cR, .slice aO c.order.length cO, .string (bs c.ignore)] 26) = w0 at *
  generalize w.heap.size = B at *
  go_loopw [3, 4] (fun n i wr => ∃ (k : Nat) (m : Int), k ≤ c.ranks.length ∧ i = .int .i64 k ∧ n = .int .i64 m ∧ 0 ≤ m ∧ m ≤ 2000 * k ∧ Hid (∀ s ∈ c.ranks.take k, MinL m s.1 ∧ MinL m s.2) ∧ Hid (Kept w0 wr)) (fun _ i _ => c.ranks.length - (intOf i).toNat)
  case atStart => exact ⟨0, 0, Nat.zero_le _, rfl, rfl, by omega, by omega, by show ∀ s ∈ _, _; simp, Kept.refl _⟩
  case round =>
    obtain ⟨k, m, hk, rfl, rfl, hm0, hm1, HT, HKR⟩ := hrel
    have b1 : wr.cell? ⟨B, 0, none⟩ = some (.slice aR c.ranks.length cR) := (HB1.out.kept HKR.out).cell 0 _ rfl
    have z1 := (HB1.out.kept HKR.out).lt
    by_cases hlt : k < c.ranks.length
    · obtain ⟨p, hx⟩ : ∃ x, c.ranks[k]? = some x := ⟨_, List.getElem?_eq_getElem hlt⟩
      obtain ⟨g, o, rfl, hg, d0, d1, -, -⟩ := (HR.out.kept (HK.out.trans HKR.out)).cell_of k p hx
      obtain ⟨hp1, hp2⟩ := HF5.out p (List.mem_of_getElem? hx)
      have HT3 : Hid (∀ s ∈ c.ranks.take (k + 1), MinL (m + min (p.1.length : Int) 1000 + min (p.2.length : Int) 1000) s.1 ∧ MinL (m + min (p.1.length : Int) 1000 + min (p.2.length : Int) 1000) s.2) := by
        show ∀ s ∈ _, _
        intro t ht
        rw [List.take_succ, hx] at ht
        simp at ht
        rcases ht with h | rfl
        · exact ⟨(HT.out t h).1.up (by omega), (HT.out t h).2.up (by omega)⟩
        · exact ⟨by unfold MinL; omega, by unfold MinL; omega⟩
      obtain ⟨x, y⟩ := p
      simp only at d0 d1 hp1 hp2 HT3
      clear hx HT
      go_wp2_with fail
      go_region
      all_goals
        go_wp2_with fail
        go_roundw
        case rel => exact ⟨k + 1, m + min (x.length : Int) 1000 + min (y.length : Int) 1000, by omega, by go_num, rfl, by omega, by omega, HT3, HKR.out.trans (kept_drewN _ _)⟩
        case measure => simp [intOf]; omega
    · have HT2 : Hid (∀ s ∈ c.ranks, MinL m s.1 ∧ MinL m s.2) := by
        show ∀ s ∈ _, _
        intro t ht
        refine HT.out t ?_
        rw [List.take_of_length_le (by omega)]; exact ht
      go_wp2_with fail
      clear b1 z1 HT hlt
      have hm2 : m ≤ 120000 := by omega
      clear hm1 hk
      go_loopw [3, 5] (fun n i wr2 => ∃ (k : Nat) (m2 : Int), k ≤ c.order.length ∧ i = .int .i64 k ∧ n = .int .i64 m2 ∧ m ≤ m2 ∧ m2 ≤ 120000 + 1000 * k ∧ Hid (∀ p ∈ c.order.take k, MinL m2 p) ∧ Hid (Kept w0 wr2)) (fun _ i _ => c.order.length - (intOf i).toNat)
      case atStart => exact ⟨0, _, Nat.zero_le _, rfl, rfl, by omega, by omega, by show ∀ s ∈ _, _; simp, HKR.out⟩
      case round =>
        clear HKR
        obtain ⟨j, m2, hj, rfl, rfl, hm3, hm1, HT, HKR⟩ := hrel
        have b1 : wr.cell? ⟨B, 1, none⟩ = some (.slice aO c.order.length cO) := (HB1.out.kept HKR.out).cell 1 _ rfl
        have z1 := (HB1.out.kept HKR.out).lt
        by_cases hlt2 : j < c.order.length
        · obtain ⟨s, hx⟩ : ∃ x, c.order[j]? = some x := ⟨_, List.getElem?_eq_getElem hlt2⟩
          obtain ⟨g, o, rfl, hg, d0, -, -⟩ := (HO.out.kept (HK.out.trans HKR.out)).cell_of j s hx
          have hsf := HF4.out s (List.mem_of_getElem? hx)
          have HT3 : Hid (∀ p ∈ c.order.take (j + 1), MinL (m2 + min (s.length : Int) 1000) p) := by
            show ∀ s ∈ _, _
            intro t ht
            rw [List.take_succ, hx] at ht
            simp at ht
            rcases ht with h | rfl
            · exact (HT.out t h).up (by omega)
            · unfold MinL; omega
          clear hx HT
          go_wp2_with fail
          go_roundw
          case rel => exact ⟨j + 1, m2 + min (s.length : Int) 1000, by omega, by go_num, rfl, by omega, by omega, HT3, HKR.out⟩
          case measure => simp [intOf]; omega
        · have HT3 : Hid (∀ s ∈ c.order, MinL m2 s) := by
            show ∀ s ∈ _, _
            intro t ht
            refine HT.out t ?_
            rw [List.take_of_length_le (by omega)]; exact ht
          have HSM : Hid (decide (m2 ≤ 500) = true → SmallC c) := fun hd => by
            have hd := of_decide_eq_true hd
            refine ⟨by omega, by omega, by omega, fun s h => ?_, fun p h => ?_⟩
            · have := HT3.out s h; unfold MinL at this; omega
            · obtain ⟨e1, e2⟩ := HT2.out p h
              unfold MinL at e1 e2; exact ⟨by omega, by omega⟩
          clear HT HT2 HT3
          go_wp2_with fail
          go_ret
          exact ⟨⟨_, rfl, HSM.out⟩, HK.out.trans HKR.out⟩
end Go.Proofs.Ythbnahagfojfbaa

/- with of publisherref25. Conditions: lengths. -/
set_option linter.all false
namespace Go.Proofs.Ythbnahagfojfbaa
open Go.RowKit

def WithP (o : Option (List Int)) (w : World) (e : Ending) (w' : World) : Prop :=
  ∃ v b, e = .returned (.tuple #[v, .bool b]) ∧ Kept w w' ∧ match o with
    | some l' => b = false ∧ Ints w' v l'
    | none => b = true
theorem Ints.form' {w : World} {v : Value} {ps : List Int} (h : Ints w v ps) : ∃ a c, v = .slice a ps.length c ∧ ps.length ≤ c := by
  obtain ⟨a, c, hv, hc, _⟩ := h; exact ⟨a, c, hv, hc⟩
theorem Ints.cell_of' {w : World} {a : Option Addr} {n c : Nat} {xs : List Int} (h : Ints w (.slice a n c) xs) (k : Nat) (x : Int) (hx : xs[k]? = some x) : ∃ g o, a = some ⟨g, o, none⟩ ∧ g < w.heap.size ∧ w.cell? ⟨g, o + k, none⟩ = some (.int .i64 x) := by
  obtain ⟨a', c', hv, hc, h3⟩ := h
  obtain ⟨rfl, rfl, rfl⟩ := Value.slice.inj hv
  obtain ⟨hk, _⟩ := List.getElem?_eq_some_iff.1 hx
  obtain ⟨g, o, ha, hg, hcell⟩ := h3 (by omega)
  exact ⟨g, o, ha, hg, hcell k x hx⟩
end Go.Proofs.Ythbnahagfojfbaa

/- Check of publisherref25. Conditions: lengths. -/
set_option linter.all false
namespace Go.Proofs.Ythbnahagfojfbaa
open Go.RowKit

end Go.Proofs.Ythbnahagfojfbaa
