/- lines.Join. Conditions: lengths. -/
import Derived.Test.YtgkgcheegaegnaaGreatDoorT12
import Derived.Test.YtgkgcheegaegnaaGreatDoorT29

set_option linter.all false
namespace Go.Proofs.YtgkgcheegaegnaaGreatDoor
open Go.RowKit

/-- Lines, each followed by a line feed. -/
def joinLn (xs : List Bs) : Bs := xs.flatMap fun x => x ++ [10]
theorem joinLn_snoc (xs : List Bs) (k : Nat) (x : Bs) (h : xs[k]? = some x) : joinLn (xs.take (k + 1)) = joinLn (xs.take k) ++ x ++ [10] := by
  obtain ⟨hk, rfl⟩ := List.getElem?_eq_some_iff.1 h
  unfold joinLn
  rw [List.take_succ_eq_append_getElem hk, List.flatMap_append]
  simp only [List.flatMap_cons, List.flatMap_nil, List.append_nil, List.append_assoc]
theorem joinLn_le (xs : List Bs) (k : Nat) : (joinLn (xs.take k)).length ≤ (joinLn xs).length := by
  unfold joinLn
  conv => rhs; rw [← List.take_append_drop k xs]
  rw [List.flatMap_append, List.length_append]; omega
theorem byteCells_app (a b : Bs) : Lib.byteCells (a ++ b) = Lib.byteCells a ++ Lib.byteCells b := by simp [Lib.byteCells]

set_option maxRecDepth 100000 in
set_option maxHeartbeats 1600000 in
theorem ljoin_any (v : Value) (xs : List Bs) (w : World) (hv : Strs w v xs) (hN : xs.length ≤ 1100000) (hl : (joinLn xs).length ≤ 1000000000000) :
    Calls Tryz.prog 33 #[v] w fun e w' => e = .returned (.string (bs (joinLn xs))) ∧ Kept w w' := by
  have HV := Lib.hid hv
  obtain ⟨a, c, rfl, hc, h3⟩ := hv
  clear h3
  go_enter Tryz.func33, Tryz.ntmps33
  go_wp2_with fail
  simp only [mk_bs]
  go_loopw [8] (fun i wr => ∃ k : Nat, k ≤ xs.length ∧ i = .int .i64 k ∧ Lib.IsBuilder 84 5 w.heap.size w.heap.size (Lib.byteCells (joinLn (xs.take k))) wr ∧ Kept w wr) (fun i _ => xs.length - (intOf i).toNat)
  case atStart =>
    refine ⟨0, Nat.zero_le _, rfl, .inl ⟨Nat.le_refl _, .slice none 0 0, ?_, World.ownsRow_nil _ _ _ _, by simp [Value.ownBlock]⟩, kept_alloc _ _⟩
    exact heap_alloc_new w _
  case round =>
    obtain ⟨k, hk, rfl, hB, hkr⟩ := hrel
    have HB := Lib.hid hB
    have HR := Lib.hid hkr
    clear hB
    by_cases hlt : k < xs.length
    · obtain ⟨x, hx⟩ : ∃ x, xs[k]? = some x := ⟨_, List.getElem?_eq_getElem hlt⟩
      obtain ⟨a', c', hv', hc', h3⟩ := HV.out.kept hkr
      obtain ⟨rfl, hdead, rfl⟩ := Value.slice.inj hv'
      clear hdead hc'
      obtain ⟨g, o, rfl, hg, hcc⟩ := h3 (by omega)
      have c0 := hcc k x hx
      have HN := Lib.hid (joinLn_snoc xs k x hx)
      have hle := joinLn_le xs k
      have hle2 := joinLn_le xs (k + 1)
      rw [HN.out] at hle2
      simp only [List.length_append, List.length_cons, List.length_nil] at hle2
      have hsz := hkr.size
      clear hkr hcc h3 hv' hx
      generalize joinLn (xs.take k) = jk at *
      go_wp2_with fail
      refine (bld_string w.heap.size w.heap.size _ x _ HB.out (by rw [Lib.byteCells_length]; omega) hsz).mono ?_
      rintro e w1 ⟨rfl, hb1, hbe1⟩
      have HB1 : Hid (Lib.IsBuilder 84 5 w.heap.size w.heap.size (Lib.byteCells jk ++ Lib.byteCells x) w1) := .inr hb1
      have HR1 := Lib.hid (HR.out.trans' hbe1)
      have hsz1 := HR1.out.size
      clear hb1 hbe1 c0 hg
      go_wp2_with fail
      refine (bld_byte w.heap.size w.heap.size _ 10 _ HB1.out (by rw [List.length_append, Lib.byteCells_length, Lib.byteCells_length]; omega) hsz1).mono ?_
      rintro e w2 ⟨rfl, hb2, hbe2⟩
      have HB2 : Hid (Lib.IsBuilder 84 5 w.heap.size w.heap.size (Lib.byteCells (jk ++ x ++ [10])) w2) := by
        refine .inr ?_
        rw [byteCells_app, byteCells_app]
        exact hb2
      have HR2 := Lib.hid (HR1.out.trans' hbe2)
      clear hb2 hbe2
      go_wp2_with fail
      go_roundw
      case rel => exact ⟨k + 1, by omega, by go_num, by rw [HN.out]; exact HB2.out, HR2.out⟩
      case measure => simp [intOf]; omega
    · have hsz := hkr.size
      rw [List.take_of_length_le (by omega)] at HB
      clear hkr
      obtain ⟨j, HJ⟩ : ∃ j, Hid (joinLn xs = j) := ⟨_, rfl⟩
      rw [HJ.out] at HB
      go_wp2_with fail
      refine (Tryz.Builder_String_any w.heap.size w.heap.size j _ HB.out hsz).mono ?_
      rintro e w1 ⟨rfl, hb1⟩
      have HR1 := Lib.hid (HR.out.trans' hb1)
      clear hb1
      go_wp2_with fail
      go_ret
      exact ⟨ret_bs HJ.out.symm, HR1.out⟩
end Go.Proofs.YtgkgcheegaegnaaGreatDoor

/- Plain words on the text of a bibliography. No condition. -/
set_option linter.all false
namespace Go.Proofs.YtgkgcheegaegnaaGreatDoor
open Go.RowKit

def persLine (h : Bs) (p : P4) : Bs := h ++ textR p.1 p.2.1 p.2.2.1 p.2.2.2
def hAuthor : Bs := [97, 117, 116, 104, 111, 114, 32, 61, 32]
def hEditor : Bs := [101, 100, 105, 116, 111, 114, 32, 61, 32]
def fldLine (f : Pr) : Bs := f.1 ++ [32, 61, 32] ++ f.2
def headLine (s : SrcT) : Bs := [64] ++ s.type ++ [123] ++ s.key ++ [44]
/-- The lines of one source. -/
def srcLines (s : SrcT) : List Bs := [headLine s] ++ s.author.map (persLine hAuthor) ++ s.editor.map (persLine hEditor) ++ s.fields.map fldLine ++ [[125]]
/-- The lines of a bibliography. -/
def outL (ss : List SrcT) : List Bs := (ss.mapIdx fun i s => (if i = 0 then [] else [[]]) ++ srcLines s).flatten
def textL (ss : List SrcT) : Bs := if checkE ss = 0 then joinLn (outL ss) else []
theorem outL_snoc (ss : List SrcT) (k : Nat) (s : SrcT) (h : ss[k]? = some s) : outL (ss.take (k + 1)) = outL (ss.take k) ++ (if k = 0 then [] else [[]]) ++ srcLines s := by
  obtain ⟨hk, rfl⟩ := List.getElem?_eq_some_iff.1 h
  rw [List.take_succ_eq_append_getElem hk]
  unfold outL
  rw [List.mapIdx_append]
  simp [Nat.min_eq_left (Nat.le_of_lt hk)]
theorem srcLines_len (s : SrcT) (h : srcE s = 0) : (srcLines s).length ≤ 90 := by
  obtain ⟨h1, h2, h3, _⟩ := srcE_parts s h
  simp [srcLines]; omega
theorem chk_src (ss : List SrcT) (h : checkE ss = 0) : ss.length ≤ 256 ∧ ∀ (k : Nat) (s : SrcT), ss[k]? = some s → srcE s = 0 := by
  unfold checkE at h
  split at h
  · cases h
  · exact ⟨by omega, fun k s hs => (chkE_all ss [] h k s hs).2.2.2⟩
theorem outL_len (ss : List SrcT) (h : ∀ (k : Nat) (s : SrcT), ss[k]? = some s → srcE s = 0) : ∀ k, k ≤ ss.length → (outL (ss.take k)).length ≤ 91 * k := by
  intro k
  induction k with
  | zero => intro _; simp [outL]
  | succ k ih =>
    intro hk
    obtain ⟨s, hs⟩ : ∃ x, ss[k]? = some x := ⟨_, List.getElem?_eq_getElem (by omega)⟩
    rw [outL_snoc ss k s hs]
    have h1 := ih (by omega)
    have h2 := srcLines_len s (h k s hs)
    have h3 : (if k = 0 then ([] : List Bs) else [[]]).length ≤ 1 := by split <;> simp
    simp only [List.length_append]; omega
end Go.Proofs.YtgkgcheegaegnaaGreatDoor
