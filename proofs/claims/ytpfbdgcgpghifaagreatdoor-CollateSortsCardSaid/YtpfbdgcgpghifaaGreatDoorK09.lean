/- lines.Join. Conditions: lengths. -/
import Derived.Test.YtpfbdgcgpghifaaGreatDoorK08

set_option linter.all false
namespace Go.Proofs.YtpfbdgcgpghifaaGreatDoor
open Go.RowKit

/-- Lines, each followed by a line feed. -/
def joinLn (xs : List Bs) : Bs := xs.flatMap fun x => x ++ [10]
theorem joinLn_snoc (xs : List Bs) (k : Nat) (x : Bs) (h : xs[k]? = some x) : joinLn (xs.take (k + 1)) = joinLn (xs.take k) ++ x ++ [10] := by
  obtain ⟨hk, rfl⟩ := List.getElem?_eq_some_iff.1 h
  unfold joinLn
  rw [List.take_succ_eq_append_getElem hk, List.flatMap_append]
  simp only [List.flatMap_cons, List.flatMap_nil, List.append_nil, List.append_assoc]
theorem joinLn_le (xs : List Bs) (k : Nat) : (joinLn (xs.take k)).length ≤ (joinLn xs).length := by
  unfold joinLn
  conv => rhs; rw [← List.take_append_drop k xs]
  rw [List.flatMap_append, List.length_append]; omega
theorem byteCells_app (a b : Bs) : Lib.byteCells (a ++ b) = Lib.byteCells a ++ Lib.byteCells b := by simp [Lib.byteCells]

set_option maxRecDepth 100000 in
set_option maxHeartbeats 1600000 in
theorem ljoin_any (v : Value) (xs : List Bs) (w : World) (hv : Strs w v xs) (hN : xs.length ≤ 1100000) (hl : (joinLn xs).length ≤ 1000000000000) :
    Calls Tryz.prog 58 #[v] w fun e w' => e = .returned (.string (bs (joinLn xs))) ∧ Kept w w' := by
  have HV := Lib.hid hv
  obtain ⟨a, c, rfl, hc, h3⟩ := hv
  clear h3
  go_enter Tryz.func58, Tryz.ntmps58
  go_wp2_with fail
  simp only [mk_bs]
  go_loopw [8] (fun i wr => ∃ k : Nat, k ≤ xs.length ∧ i = .int .i64 k ∧ Lib.IsBuilder 117 5 w.heap.size w.heap.size (Lib.byteCells (joinLn (xs.take k))) wr ∧ Kept w wr) (fun i _ => xs.length - (intOf i).toNat)
  case atStart =>
    refine ⟨0, Nat.zero_le _, rfl, .inl ⟨Nat.le_refl _, .slice none 0 0, ?_, World.ownsRow_nil _ _ _ _, by simp [Value.ownBlock]⟩, kept_alloc _ _⟩
    exact heap_alloc_new w _
  case round =>
    obtain ⟨k, hk, rfl, hB, hkr⟩ := hrel
    have HB := Lib.hid hB
    have HR := Lib.hid hkr
    clear hB
    by_cases hlt : k < xs.length
    · obtain ⟨x, hx⟩ : ∃ x, xs[k]? = some x := ⟨_, List.getElem?_eq_getElem hlt⟩
      obtain ⟨a', c', hv', hc', h3⟩ := HV.out.kept hkr
      obtain ⟨rfl, hdead, rfl⟩ := Value.slice.inj hv'
      clear hdead hc'
      obtain ⟨g, o, rfl, hg, hcc⟩ := h3 (by omega)
      have c0 := hcc k x hx
      have HN := Lib.hid (joinLn_snoc xs k x hx)
      have hle := joinLn_le xs k
      have hle2 := joinLn_le xs (k + 1)
      rw [HN.out] at hle2
      simp only [List.length_append, List.length_cons, List.length_nil] at hle2
      have hsz := hkr.size
      clear hkr hcc h3 hv' hx
      generalize joinLn (xs.take k) = jk at *
      go_wp2_with fail
      refine (bld_string w.heap.size w.heap.size _ x _ HB.out (by rw [Lib.byteCells_length]; omega) hsz).mono ?_
      rintro e w1 ⟨rfl, hb1, hbe1⟩
      have HB1 : Hid (Lib.IsBuilder 117 5 w.heap.size w.heap.size (Lib.byteCells jk ++ Lib.byteCells x) w1) := .inr hb1
      have HR1 := Lib.hid (HR.out.trans' hbe1)
      have hsz1 := HR1.out.size
      clear hb1 hbe1 c0 hg
      go_wp2_with fail
      refine (bld_byte w.heap.size w.heap.size _ 10 _ HB1.out (by rw [List.length_append, Lib.byteCells_length, Lib.byteCells_length]; omega) hsz1).mono ?_
      rintro e w2 ⟨rfl, hb2, hbe2⟩
      have HB2 : Hid (Lib.IsBuilder 117 5 w.heap.size w.heap.size (Lib.byteCells (jk ++ x ++ [10])) w2) := by
        refine .inr ?_
        rw [byteCells_app, byteCells_app]
        exact hb2
      have HR2 := Lib.hid (HR1.out.trans' hbe2)
      clear hb2 hbe2
      go_wp2_with fail
      go_roundw
      case rel => exact ⟨k + 1, by omega, by go_num, by rw [HN.out]; exact HB2.out, HR2.out⟩
      case measure => simp [intOf]; omega
    · have hsz := hkr.size
      rw [List.take_of_length_le (by omega)] at HB
      clear hkr
      obtain ⟨j, HJ⟩ : ∃ j, Hid (joinLn xs = j) := ⟨_, rfl⟩
      rw [HJ.out] at HB
      go_wp2_with fail
      refine (Tryz.Builder_String_any w.heap.size w.heap.size j _ HB.out hsz).mono ?_
      rintro e w1 ⟨rfl, hb1⟩
      have HR1 := Lib.hid (HR.out.trans' hb1)
      clear hb1
      go_wp2_with fail
      go_ret
      exact ⟨ret_bs HJ.out.symm, HR1.out⟩
end Go.Proofs.YtpfbdgcgpghifaaGreatDoor

/- Slices of pairs; bib.hasField, bib.Field. Conditions: lengths. -/
set_option linter.all false
namespace Go.Proofs.YtpfbdgcgpghifaaGreatDoor
open Go.RowKit

abbrev Pr := Bs × Bs
/-- The slice value v reads in w as the pairs ps. -/
def Prs (w : World) (v : Value) (ps : List Pr) : Prop :=
  ∃ a c, v = .slice a ps.length c ∧ ps.length ≤ c ∧ (0 < ps.length → ∃ g o, a = some ⟨g, o, none⟩ ∧ g < w.heap.size ∧ ∀ j q, ps[j]? = some q →
    w.cell? ⟨g, o + j * 2, none⟩ = some (.string (bs q.1)) ∧ w.cell? ⟨g, o + j * 2 + 1, none⟩ = some (.string (bs q.2)))
theorem Prs.kept {w w' : World} {v : Value} {ps : List Pr} (h : Prs w v ps) (k : Kept w w') : Prs w' v ps := by
  obtain ⟨a, c, hv, hc, h3⟩ := h
  refine ⟨a, c, hv, hc, fun q => ?_⟩
  obtain ⟨g, o, ha, hg, hcell⟩ := h3 q
  refine ⟨g, o, ha, Nat.lt_of_lt_of_le hg k.size, fun j x hx => ?_⟩
  obtain ⟨c0, c1⟩ := hcell j x hx
  exact ⟨(k.cell (p := ⟨g, o + j * 2, none⟩) hg).trans c0, (k.cell (p := ⟨g, o + j * 2 + 1, none⟩) hg).trans c1⟩
def hasB (ps : List Pr) (k : Bs) : Bool := ps.any fun q => q.1 == k

theorem hasB_take (ps : List Pr) (k : Bs) (n : Nat) (q : Pr) (h : ps[n]? = some q) : hasB (ps.take (n + 1)) k = (hasB (ps.take n) k || q.1 == k) := by
  unfold hasB
  obtain ⟨hk, rfl⟩ := List.getElem?_eq_some_iff.1 h
  rw [List.take_succ_eq_append_getElem hk, List.any_append]; simp only [List.any_cons, List.any_nil, Bool.or_false]
theorem hasB_more (ps : List Pr) (k : Bs) (n : Nat) (h : hasB (ps.take n) k = true) : hasB ps k = true := by
  unfold hasB at h ⊢
  rw [List.any_eq_true] at h ⊢
  obtain ⟨x, hx, e⟩ := h
  exact ⟨x, List.mem_of_mem_take hx, e⟩

/-- What IndexFunc answers: some place, or -1. -/
def FoundPost (ps : List Pr) (k : Bs) (w : World) (e : Ending) (w' : World) : Prop := ∃ r : Int, e = .returned (.int .i64 r) ∧ decide (0 ≤ r) = hasB ps k ∧ Kept w w'
/-- The value of a field. -/
def fieldL (ps : List Pr) (k : Bs) : Option Bs := (ps.find? fun q => q.1 == k).map (·.2)
end Go.Proofs.YtpfbdgcgpghifaaGreatDoor
