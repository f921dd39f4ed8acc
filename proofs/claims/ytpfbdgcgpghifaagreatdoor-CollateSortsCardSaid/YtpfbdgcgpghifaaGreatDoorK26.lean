/- read of collate. Conditions: lengths. -/
import Derived.Test.YtpfbdgcgpghifaaGreatDoorK24
import Derived.Test.YtpfbdgcgpghifaaGreatDoorK25
import Derived.Test.YtpfbdgcgpghifaaGreatDoorK14
import Derived.Test.YtpfbdgcgpghifaaGreatDoorK11
import Derived.Deep.RegionLaw

set_option linter.all false
namespace Go.Proofs.YtpfbdgcgpghifaaGreatDoor
open Go.RowKit

def ReadP (r : Option ColT) (b base : Nat) (w : World) (e : Ending) (w' : World) : Prop :=
  Only (fun i => i = b ∨ base ≤ i) w w' ∧ match r with
    | some c' => e = .returned (.bool true) ∧ ColSt w' b base c'
    | none => e = .returned (.bool false)
theorem below_drewN (B : Nat) (w : World) (n : Nat) : Below B w (w.drewN n) := ⟨rfl, rfl, rfl, Nat.le_refl _, fun _ _ => rfl⟩
set_option maxRecDepth 100000 in
set_option maxHeartbeats 3200000 in
theorem read_order (b base : Nat) (c : ColT) (v : Value) (ws : List Bs) (w : World) (hst : ColSt w b base c) (hv : Strs w v ([111, 114, 100, 101, 114] :: ws)) (hbs : base ≤ w.heap.size) (hws : 0 < ws.length) (hl : c.order.length + ws.length ≤ 4000000) :
    Calls Tryz.prog 87 #[.pointer (some ⟨b, 0, none⟩), v] w (ReadP (some { c with order := c.order ++ ws }) b base w) := by
  obtain ⟨vR, vO, hb, hR, hO⟩ := hst
  have HB := Lib.hid hb
  have HR := Lib.hid hR
  have HO := Lib.hid hO
  have hz := hb.lt
  obtain ⟨aO, cO, hvO, _, _, _⟩ := own_cap hO
  subst hvO
  have c1 : w.cell? ⟨b, 1, none⟩ = some (.slice aO c.order.length cO) := hb.cell 1 _ rfl
  have f1 : w.frozen? ⟨b, 1, none⟩ = false := hb.free 1
  obtain ⟨av, cv, rfl, hcv⟩ : ∃ a c', v = .slice a (ws.length + 1) c' ∧ ws.length + 1 ≤ c' := by
    obtain ⟨a, c', hv, hc, _⟩ := hv; exact ⟨a, c', hv, hc⟩
  obtain ⟨g, o, rfl, hg, d0⟩ := hv.cell_of2 0 _ rfl
  rw [Nat.add_zero] at d0
  have HT := Lib.hid (hv.tail.kept (kept_drewN w 1))
  have hle1 : (1 : Int) ≤ (ws.length : Int) + 1 := by omega
  have hcv1 : ¬ cv = 1 := by omega
  clear hv hb hR hO
  go_enter Tryz.func87, Tryz.ntmps87
  go_wp2_with fail
  go_region_law ((refine step_append_strs _ rfl (.tmp 19) (.tmp 21) rfl base _ c.order (by simp [Act.eval, Act.put]) (HO.out.drew) _ ws (by simp [Act.eval, Act.put]) HT.out (by omega) (by simp; omega) ?_; intro v' w3 hown3 hgrow3; have hb3 := (hgrow3.block b (by simpa using hz) (own_no_blk HO.out HB.out (by decide))).trans HB.out; have f3 : w3.cell? ⟨b, 1, none⟩ = some (.slice aO c.order.length cO) := (show Blk w3 b 25 _ from hb3).cell 1 _ rfl; have f4 : w3.frozen? ⟨b, 1, none⟩ = false := (show Blk w3 b 25 _ from hb3).free 1; have z3 := (show Blk w3 b 25 _ from hb3).lt; have HG3 := Lib.hid hgrow3; have HO3 := Lib.hid hown3; obtain ⟨a3, c3, rfl, _, _, _⟩ := own_cap hown3; clear hgrow3 hown3 hb3))
  all_goals
    have hS := st_order (w := w.drew) (HB.out.kept (kept_drewN w 1)) (HR.out.drew) (HO.out.drew) HO3.out HG3.out
    rw [List.length_append] at hS
    have HS := Lib.hid hS
    clear hS
    go_wp2_with fail
    go_ret
    exact ⟨(Only.of_kept (kept_drewN w 1)).trans HS.out.2, rfl, HS.out.1⟩
set_option maxRecDepth 100000 in
set_option maxHeartbeats 3200000 in
theorem read_as (b base : Nat) (c : ColT) (v : Value) (x y : Bs) (w : World) (hst : ColSt w b base c) (hv : Strs w v [[97, 115], x, y]) (hbs : base ≤ w.heap.size) (hl : c.ranks.length ≤ 1000000) :
    Calls Tryz.prog 87 #[.pointer (some ⟨b, 0, none⟩), v] w (ReadP (some { c with ranks := c.ranks ++ [(x, y)] }) b base w) := by
  obtain ⟨vR, vO, hb, hR, hO⟩ := hst
  have HB := Lib.hid hb
  have HR := Lib.hid hR
  have HO := Lib.hid hO
  have hz := hb.lt
  obtain ⟨aR, cR, hvR, _, _, _⟩ := own_cap hR
  subst hvR
  have c0 : w.cell? ⟨b, 0, none⟩ = some (.slice aR c.ranks.length cR) := hb.cell 0 _ rfl
  have f0 : w.frozen? ⟨b, 0, none⟩ = false := hb.free 0
  obtain ⟨av, cv, rfl, hcv⟩ : ∃ a c', v = .slice a 3 c' ∧ 3 ≤ c' := by
    obtain ⟨a, c', hv, hc, _⟩ := hv; exact ⟨a, c', hv, hc⟩
  obtain ⟨g, o, rfl, hg, d0⟩ := hv.cell_of2 0 _ rfl
  have d1 : w.cell? ⟨g, o + 1, none⟩ = some (.string (bs x)) := by
    obtain ⟨g', o', e, _, h⟩ := hv.cell_of2 1 _ rfl
    cases e; exact h
  have d2 : w.cell? ⟨g, o + 2, none⟩ = some (.string (bs y)) := by
    obtain ⟨g', o', e, _, h⟩ := hv.cell_of2 2 _ rfl
    cases e; exact h
  rw [Nat.add_zero] at d0
  have HN := Lib.hid (new_prs w.drew x y)
  have HKN : Hid (Kept w (w.drew.alloc (.cells #[.string (bs x), .string (bs y)] 62))) := (kept_drewN w 1).trans (kept_alloc _ _)
  have HBN := Lib.hid (HB.out.kept HKN.out)
  clear hv hb hR hO
  go_enter Tryz.func87, Tryz.ntmps87
  go_wp2_with fail
  go_region_law ((refine step_append_prs _ rfl (.tmp 39) (.tmp 47) rfl base _ c.ranks (by simp [Act.eval, Act.put]) (own_kept HR.out HKN.out) _ [(x, y)] (by simp [Act.eval, Act.put]) HN.out (by simp; omega) (by simp; omega) ?_; intro v' w3 hown3 hgrow3; have hb3 := (hgrow3.block b HBN.out.lt (own_no_blk (own_kept HR.out HKN.out) HBN.out (by decide))).trans HBN.out; have f3 : w3.cell? ⟨b, 0, none⟩ = some (.slice aR c.ranks.length cR) := (show Blk w3 b 25 _ from hb3).cell 0 _ rfl; have f4 : w3.frozen? ⟨b, 0, none⟩ = false := (show Blk w3 b 25 _ from hb3).free 0; have z3 := (show Blk w3 b 25 _ from hb3).lt; have HG3 := Lib.hid hgrow3; have HO3 := Lib.hid hown3; obtain ⟨a3, c3, rfl, _, _, _⟩ := own_cap hown3; clear hgrow3 hown3 hb3))
  all_goals
    have hS := st_ranks HBN.out (own_kept HR.out HKN.out) (own_kept HO.out HKN.out) HO3.out HG3.out
    rw [List.length_append] at hS
    have HS := Lib.hid hS
    clear hS
    go_wp2_with fail
    go_ret
    exact ⟨(Only.of_kept HKN.out).trans HS.out.2, rfl, HS.out.1⟩
set_option maxRecDepth 100000 in
set_option maxHeartbeats 3200000 in
theorem read_ignore (b base : Nat) (c : ColT) (v : Value) (x : Bs) (w : World) (hst : ColSt w b base c) (hv : Strs w v [[105, 103, 110, 111, 114, 101], x]) (hbs : base ≤ w.heap.size) (hl : c.ignore.length ≤ 1000000) (hx : x.length ≤ 1100000) :
    Calls Tryz.prog 87 #[.pointer (some ⟨b, 0, none⟩), v] w (ReadP (some { c with ignore := c.ignore ++ x }) b base w) := by
  obtain ⟨vR, vO, hb, hR, hO⟩ := hst
  have HB := Lib.hid hb
  have HR := Lib.hid hR
  have HO := Lib.hid hO
  have hz := hb.lt
  have c2 : w.cell? ⟨b, 2, none⟩ = some (.string (bs c.ignore)) := hb.cell 2 _ rfl
  have f2 : w.frozen? ⟨b, 2, none⟩ = false := hb.free 2
  obtain ⟨av, cv, rfl, hcv⟩ : ∃ a c', v = .slice a 2 c' ∧ 2 ≤ c' := by
    obtain ⟨a, c', hv, hc, _⟩ := hv; exact ⟨a, c', hv, hc⟩
  obtain ⟨g, o, rfl, hg, d0⟩ := hv.cell_of2 0 _ rfl
  have d1 : w.cell? ⟨g, o + 1, none⟩ = some (.string (bs x)) := by
    obtain ⟨g', o', e, _, h⟩ := hv.cell_of2 1 _ rfl
    cases e; exact h
  rw [Nat.add_zero] at d0
  have hadd : ∀ w, (Op.stringOp .add (bs c.ignore) (bs x)).run Tryz.prog w = .ok (.string (bs (c.ignore ++ x))) w := fun w => by
    rw [run_string_add_sum w (bs c.ignore) (bs x) (by simp only [bs_size]; omega), bs_append]
  have HS := Lib.hid (st_ignore (a := c.ignore ++ x) (HB.out.kept (kept_drewN w 1)) (HR.out.drew) (HO.out.drew))
  clear hv hb hR hO
  generalize c.ignore ++ x = z at *
  go_enter Tryz.func87, Tryz.ntmps87
  go_wp2_with fail
  go_region
  all_goals
    go_wp2_with fail
    go_ret
    exact ⟨(Only.of_kept (kept_drewN w 1)).trans HS.out.2, rfl, HS.out.1⟩
set_option maxRecDepth 100000 in
set_option maxHeartbeats 3200000 in
theorem read_no (b base : Nat) (c : ColT) (v : Value) (x : Bs) (ws : List Bs) (w : World) (hv : Strs w v (x :: ws))
    (h : (x = [111, 114, 100, 101, 114] ∧ ws = []) ∨ (x = [97, 115] ∧ ws.length ≠ 2) ∨ (x = [105, 103, 110, 111, 114, 101] ∧ ws.length ≠ 1) ∨ (x ≠ [111, 114, 100, 101, 114] ∧ x ≠ [97, 115] ∧ x ≠ [105, 103, 110, 111, 114, 101])) :
    Calls Tryz.prog 87 #[.pointer (some ⟨b, 0, none⟩), v] w (ReadP none b base w) := by
  obtain ⟨av, cv, rfl, hcv⟩ : ∃ a c', v = .slice a (ws.length + 1) c' ∧ ws.length + 1 ≤ c' := by
    obtain ⟨a, c', hv, hc, _⟩ := hv; exact ⟨a, c', hv, hc⟩
  obtain ⟨g, o, rfl, hg, d0⟩ := hv.cell_of2 0 _ rfl
  rw [Nat.add_zero] at d0
  clear hv
  rcases h with ⟨rfl, rfl⟩ | ⟨rfl, h⟩ | ⟨rfl, h⟩ | ⟨h1, h2, h3⟩
  · go_enter Tryz.func87, Tryz.ntmps87
    go_wp2_with fail
    go_ret
    exact ⟨Only.of_kept (Kept.refl _), rfl⟩
  · have hl : ((ws.length : Int) + 1 == 3) = false := by rw [beq_eq_false_iff_ne]; omega
    go_enter Tryz.func87, Tryz.ntmps87
    go_wp2_with fail
    go_ret
    exact ⟨Only.of_kept (Kept.refl _), rfl⟩
  · have hl : ((ws.length : Int) + 1 == 2) = false := by rw [beq_eq_false_iff_ne]; omega
    go_enter Tryz.func87, Tryz.ntmps87
    go_wp2_with fail
    go_ret
    exact ⟨Only.of_kept (Kept.refl _), rfl⟩
  · have e1 : (x == [111, 114, 100, 101, 114]) = false := by simpa using h1
    have e2 : (x == [97, 115]) = false := by simpa using h2
    have e3 : (x == [105, 103, 110, 111, 114, 101]) = false := by simpa using h3
    clear h1 h2 h3
    go_enter Tryz.func87, Tryz.ntmps87
    go_wp2_with fail
    go_ret
    exact ⟨Only.of_kept (Kept.refl _), rfl⟩
/-- The four forms of a line, or none. -/
theorem addW_cases (c : ColT) (x : Bs) (ws : List Bs) :
    (x = kOrder ∧ 0 < ws.length ∧ addW c (x :: ws) = some { c with order := c.order ++ ws }) ∨
    (∃ y z, x = kAs ∧ ws = [y, z] ∧ addW c (x :: ws) = some { c with ranks := c.ranks ++ [(y, z)] }) ∨
    (∃ y, x = kIgnore ∧ ws = [y] ∧ addW c (x :: ws) = some { c with ignore := c.ignore ++ y }) ∨
    (addW c (x :: ws) = none ∧ ((x = kOrder ∧ ws = []) ∨ (x = kAs ∧ ws.length ≠ 2) ∨ (x = kIgnore ∧ ws.length ≠ 1) ∨ (x ≠ kOrder ∧ x ≠ kAs ∧ x ≠ kIgnore))) := by
  by_cases h1 : x = kOrder
  · subst h1
    cases ws with
    | nil => exact .inr (.inr (.inr ⟨rfl, .inl ⟨rfl, rfl⟩⟩))
    | cons y ws => exact .inl ⟨rfl, by simp, by simp [addW]⟩
  by_cases h2 : x = kAs
  · subst h2
    match ws with
    | [] => exact .inr (.inr (.inr ⟨rfl, .inr (.inl ⟨rfl, by simp⟩)⟩))
    | [y] => exact .inr (.inr (.inr ⟨rfl, .inr (.inl ⟨rfl, by simp⟩)⟩))
    | [y, z] => exact .inr (.inl ⟨y, z, rfl, rfl, rfl⟩)
    | y :: z :: u :: ws => exact .inr (.inr (.inr ⟨by simp [addW, kAs, kOrder], .inr (.inl ⟨rfl, by simp⟩)⟩))
  by_cases h3 : x = kIgnore
  · subst h3
    match ws with
    | [] => exact .inr (.inr (.inr ⟨rfl, .inr (.inr (.inl ⟨rfl, by simp⟩))⟩))
    | [y] => exact .inr (.inr (.inl ⟨y, rfl, rfl, rfl⟩))
    | [y, z] => exact .inr (.inr (.inr ⟨rfl, .inr (.inr (.inl ⟨rfl, by simp⟩))⟩))
    | y :: z :: u :: ws => exact .inr (.inr (.inr ⟨by simp [addW, kIgnore, kOrder], .inr (.inr (.inl ⟨rfl, by simp⟩))⟩))
  · refine .inr (.inr (.inr ⟨?_, .inr (.inr (.inr ⟨h1, h2, h3⟩))⟩))
    match ws with
    | [] => simp [addW, h1]
    | [y] => simp [addW, h1, h3]
    | [y, z] => simp [addW, h1, h2]
    | y :: z :: u :: ws => simp [addW, h1]
theorem read_any (b base : Nat) (c : ColT) (v : Value) (x : Bs) (ws : List Bs) (w : World) (hst : ColSt w b base c) (hv : Strs w v (x :: ws)) (hbs : base ≤ w.heap.size) (h1 : c.order.length + ws.length ≤ 4000000) (h2 : c.ranks.length ≤ 1000000) (h3 : c.ignore.length ≤ 1000000) (h4 : ∀ y ∈ ws, y.length ≤ 1100000) :
    Calls Tryz.prog 87 #[.pointer (some ⟨b, 0, none⟩), v] w (ReadP (addW c (x :: ws)) b base w) := by
  rcases addW_cases c x ws with ⟨rfl, hl, e⟩ | ⟨y, z, rfl, rfl, e⟩ | ⟨y, rfl, rfl, e⟩ | ⟨e, h⟩
  · rw [e]; exact read_order b base c v ws w hst hv hbs hl h1
  · rw [e]; exact read_as b base c v y z w hst hv hbs h2
  · rw [e]; exact read_ignore b base c v y w hst hv hbs h3 (h4 y (by simp))
  · rw [e]; exact read_no b base c v x ws w hv h
end Go.Proofs.YtpfbdgcgpghifaaGreatDoor

/- Plain words: how long words, lines and rules are. No condition. -/
set_option linter.all false
namespace Go.Proofs.YtpfbdgcgpghifaaGreatDoor
open Go.RowKit

theorem runC_len (c : UInt8) (l : Bs) : (∀ x ∈ (runC c l).1, x.length ≤ l.length) ∧ (runC c l).2.length ≤ l.length := by
  refine snoc_ind (P := fun l => (∀ x ∈ (runC c l).1, x.length ≤ l.length) ∧ (runC c l).2.length ≤ l.length) ?_ ?_ l
  · exact ⟨fun x hx => by simp [runC] at hx, by simp [runC]⟩
  · intro l b ih
    obtain ⟨h1, h2⟩ := ih
    rw [runC_snoc]
    unfold stepC
    split
    · refine ⟨fun x hx => ?_, by simp⟩
      rcases List.mem_append.1 hx with h | h
      · have := h1 x h; simp; omega
      · simp only [List.mem_singleton] at h; subst h; simp; omega
    · refine ⟨fun x hx => ?_, by simp; omega⟩
      have := h1 x hx; simp; omega
theorem words_le (l : Bs) : (∀ x ∈ wordsB l, x.length ≤ l.length) ∧ (wordsB l).length ≤ l.length + 1 := by
  obtain ⟨h1, h2⟩ := runC_len 32 l
  refine ⟨fun x hx => ?_, ?_⟩
  · unfold wordsB splitC at hx
    rw [List.mem_filter] at hx
    rcases List.mem_append.1 hx.1 with h | h
    · exact h1 x h
    · simp only [List.mem_singleton] at h; subst h; exact h2
  · have := splitC_count 32 l
    have h3 := List.length_filter_le (fun x : Bs => !x.isEmpty) (splitC 32 l)
    unfold wordsB; omega
theorem lines_le (t : Bs) : (∀ x ∈ linesL t, x.length ≤ t.length) ∧ (linesL t).length ≤ t.length + 1 := by
  obtain ⟨h1, h2⟩ := runC_len 10 t
  refine ⟨fun x hx => ?_, ?_⟩
  · unfold linesL at hx
    rcases List.mem_append.1 hx with h | h
    · exact h1 x h
    · split at h
      · cases h
      · simp only [List.mem_singleton] at h; subst h; exact h2
  · have := splitC_count 10 t
    unfold splitC at this
    unfold linesL
    rw [List.length_append] at this ⊢
    split <;> simp at this ⊢ <;> omega
/-- What a collation without errors is as long as. -/
theorem colE_small {c : ColT} (h : colE c = 0) : c.order.length ≤ 128 ∧ c.ranks.length ≤ 128 ∧ c.ignore.length ≤ 200 ∧ (∀ s ∈ c.order, s.length ≤ 200) ∧ ∀ p ∈ c.ranks, p.1.length ≤ 200 ∧ p.2.length ≤ 200 := by
  obtain ⟨h1, h2, h3, h4, h5⟩ := colE_parts h
  refine ⟨h1, h2, ?_, fun s hs => (rule_parts (ordC_all _ _ h3 s hs)).2.1, fun p hp => ?_⟩
  · rcases ign_rule h5 with q | q
    · rw [q]; simp
    · exact (rule_parts q).2.1
  · have hr := rnkC_all c.ranks _ h4 p hp
    exact ⟨(rule_parts hr.1).2.1, (rule_parts hr.2).2.1⟩
theorem SmallC.ok {c : ColT} (h : colE c = 0) : SmallC c := by
  obtain ⟨h1, h2, h3, h4, h5⟩ := colE_small h
  exact ⟨by omega, by omega, by omega, fun s hs => by have := h4 s hs; omega, fun p hp => by have := h5 p hp; omega⟩
/-- A line of short words leaves a collation small. -/
theorem addW_small {c c' : ColT} {x : Bs} {ws : List Bs} (h : colE c = 0) (hw : ∀ y ∈ x :: ws, y.length ≤ 600) (hn : ws.length ≤ 600) (ha : addW c (x :: ws) = some c') : SmallC c' := by
  obtain ⟨h1, h2, h3, h4, h5⟩ := colE_small h
  rcases addW_cases c x ws with ⟨_, _, e⟩ | ⟨y, z, _, rfl, e⟩ | ⟨y, _, rfl, e⟩ | ⟨e, _⟩
  · rw [e] at ha
    cases ha
    refine ⟨by simp; omega, by simp; omega, by simp; omega, fun s hs => ?_, fun p hp => ?_⟩
    · rcases List.mem_append.1 hs with q | q
      · have := h4 s q; omega
      · have := hw s (by simp [q]); omega
    · have := h5 p hp; omega
  · rw [e] at ha
    cases ha
    refine ⟨by simp; omega, by simp; omega, by simp; omega, fun s hs => ?_, fun p hp => ?_⟩
    · have := h4 s hs; omega
    · rcases List.mem_append.1 hp with q | q
      · have := h5 p q; omega
      · simp only [List.mem_singleton] at q
        subst q
        have := hw y (by simp)
        have := hw z (by simp)
        exact ⟨by simp; omega, by simp; omega⟩
  · rw [e] at ha
    cases ha
    have := hw y (by simp)
    refine ⟨by simp; omega, by simp; omega, by simp; omega, fun s hs => ?_, fun p hp => ?_⟩
    · have := h4 s hs; omega
    · have := h5 p hp; omega
  · rw [e] at ha; cases ha
theorem colE_zero : colE zeroC = 0 := by simp [colE, zeroC, ordC, rnkC, ignC]
theorem colR_at (ls : List Bs) (k : Nat) (l : Bs) (c : ColT) (h : ls[k]? = some l) : colR (ls.drop k) k c = if wordsB l = [] then colR (ls.drop (k + 1)) (k + 1) c else match addW c (wordsB l) with
    | none => (zeroC, (k : Int) + 1, 5)
    | some c' => if colE c' ≠ 0 then (zeroC, (k : Int) + 1, colE c') else colR (ls.drop (k + 1)) (k + 1) c' := by
  obtain ⟨hk, rfl⟩ := List.getElem?_eq_some_iff.1 h
  rw [List.drop_eq_getElem_cons hk, colR]; rfl
end Go.Proofs.YtpfbdgcgpghifaaGreatDoor
