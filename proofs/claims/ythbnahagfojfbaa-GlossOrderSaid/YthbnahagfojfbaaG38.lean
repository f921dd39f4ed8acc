/- Regions that draw their order, by facts about the values that have been made and one fact that joins them. One last store. No condition. -/
import Derived.Test.YthbnahagfojfbaaG36
import Derived.Test.YthbnahagfojfbaaG37

set_option linter.all false
namespace Go.Proofs.Ythbnahagfojfbaa
open Go.RowKit

section
variable {P : Program} {ops : Array Oper} {Q : Exit → Act → World → Prop}
/-- Between the operations: the values that have been made, and what is known of them. -/
def FacJ (n s : Nat) (D : Nat → Option Nat) (ea : List Nat) (dep : Nat → List Nat) (F : Nat → (Nat → Value) → World → Prop) (G : (Nat → Prop) → (Nat → Value) → World → Prop) (Fin : (Nat → Value) → World → Prop) (a0 : Act) (L : Array Bool) (a : Act) (w : World) : Prop :=
  L.size = n ∧ ∃ V, Slots n D V L a0 a ∧ (∀ j, j < n → On L j → ∀ i ∈ dep j, On L i) ∧ (¬ On L s → G (fun j => On L j) V w ∧ ∀ j, j < n → On L j → F j V w) ∧ (On L s → Fin V w ∧ (∀ i ∈ ea, On L i) ∧ ∀ j, j < n → On L j → j ≠ s → j ∉ ea → F j V w)
/-- A region that draws its order: s is its last store; what need not go ahead of it makes values alone. -/
theorem wp_region_joint {id : Nat} {a : Act} {w : World} (n s m : Nat) (ea dep : Array (List Nat)) (hc : facB ops n s ea dep m = true) (hm : P.follows .mixedOrders = true) (hz : m ≤ a.tmps.size)
    (F : Nat → (Nat → Value) → World → Prop) (G : (Nat → Prop) → (Nat → Value) → World → Prop) (St : Nat → World → World → Prop) (Fin : (Nat → Value) → World → Prop)
    (hloc : ∀ j, j < n → ∀ V V' w, (∀ i, i = j ∨ i ∈ dep.getD j [] → V i = V' i) → F j V w → F j V' w)
    (hfin : ∀ V V' w, (∀ i, i = s ∨ i ∈ ea.getD 0 [] → V i = V' i) → Fin V w → Fin V' w)
    (hst : ∀ i j, i < n → j < n → i ≠ s → j ≠ s → j ≠ i → i ∉ dep.getD j [] → ∀ V w w', F j V w → St i w w' → F j V w')
    (hfree : ∀ j, j < n → j ≠ s → j ∉ ea.getD 0 [] → ∀ V w w', F j V w → F j V w')
    (hG0 : ∀ V, G (fun _ => False) V w.drew)
    (hstep : ∀ i, i < n → i ≠ s → ∀ X V a' w', G X V w' → ¬ X i → (∀ j, j < n → X j → ∀ k ∈ dep.getD j [], X k) → (∀ j ∈ dep.getD i [], X j ∧ F j V w' ∧ ∀ d, dstB ops j = some d → a'.eval (.tmp d) = V j) → (∀ t, (∀ j, j < n → dstB ops j ≠ some t) → a'.eval (.tmp t) = a.eval (.tmp t)) →
      ∀ K : Act → World → Prop, (∀ v w'', St i w' w'' → G (fun j => j = i ∨ X j) (upd V i v) w'' → F i (upd V i v) w'' → K (a'.put (dstB ops i) v) w'') → wpOp P ops Q i K a' w')
    (hlast : ∀ X V a' w', G X V w' → (∀ j ∈ ea.getD 0 [], X j ∧ F j V w' ∧ ∀ d, dstB ops j = some d → a'.eval (.tmp d) = V j) → (∀ t, (∀ j, j < n → dstB ops j ≠ some t) → a'.eval (.tmp t) = a.eval (.tmp t)) →
      ∀ K : Act → World → Prop, (∀ v w'', Fin (upd V s v) w'' → K (a'.put (dstB ops s) v) w'') → wpOp P ops Q s K a' w')
    (hafter : ∀ i, i < n → i ≠ s → i ∉ ea.getD 0 [] → ∀ V a' w', Fin V w' → (∀ j ∈ dep.getD i [], (j ≠ s → j ∉ ea.getD 0 [] → F j V w') ∧ ∀ d, dstB ops j = some d → a'.eval (.tmp d) = V j) →
      ∀ K : Act → World → Prop, (∀ v, F i (upd V i v) w' → K (a'.put (dstB ops i) v) w') → wpOp P ops Q i K a' w')
    (hend : ∀ V w', Fin V w' → (∀ j, j < n → j ≠ s → j ∉ ea.getD 0 [] → F j V w') → Q .normal (putAll (dstB ops) V n a) w') :
    (Code.region id ops true).wp P Q a w := by
  obtain ⟨hn, hs, hac⟩ := facB_ac hc
  have hO : ∀ i, i < n → ∃ o, ops[i]? = some o := fun i hi => ⟨_, Array.getElem?_eq_getElem (by rw [hn]; exact hi)⟩
  have hdo : ∀ {i : Nat} {o : Oper}, ops[i]? = some o → dstB ops i = o.dst := fun h => by unfold dstB; rw [h]; rfl
  have hinj : ∀ i j d, i < n → j < n → dstB ops i = some d → dstB ops j = some d → j = i := fun i j d hi hj h1 h2 => by
    obtain ⟨o, ho⟩ := hO i hi
    exact ((facB_ops hc ho).2 d (by rw [← hdo ho]; exact h1)).2 j hj h2
  have hlt : ∀ i d, i < n → dstB ops i = some d → d < a.tmps.size := fun i d hi h1 => by
    obtain ⟨o, ho⟩ := hO i hi
    exact Nat.lt_of_lt_of_le ((facB_ops hc ho).2 d (by rw [← hdo ho]; exact h1)).1 hz
  subst hn
  generalize hD : dstB ops = D at *
  generalize hE : ea.getD 0 [] = E at *
  refine wp_region_inv (FacJ ops.size s D E (fun i => dep.getD i []) F G Fin a) hm (ac_of hac) ?_ ?_ ?_
  · have hno : ∀ i, ¬ On (Array.replicate ops.size false) i := fun i => not_on_start ops.size i
    exact ⟨by simp, fun _ => undef, Slots.start _ _ _ _ _, fun j _ h => absurd h (hno j), fun _ => ⟨by rw [show (fun j => On (Array.replicate ops.size false) j) = fun _ => False from funext fun j => eq_false (hno j)]; exact hG0 _, fun j _ h => absurd h (hno j)⟩, fun h => absurd h (hno s)⟩
  · intro L a1 w1 ⟨hsz, V, S, _, _, h4⟩ hall
    have hon : ∀ i, i < ops.size → On L i := fun i hi => by
      have := hall i hi
      unfold On
      rw [Array.getD_eq_getD_getElem?, Array.getElem?_eq_getElem (by omega)] at this ⊢
      exact this
    rw [slots_all S hinj hlt hon]
    exact hend V w1 (h4 (hon s hs)).1 fun j hj q1 q2 => (h4 (hon s hs)).2.2 j hj (hon j hj) q1 q2
  · intro L a1 w1 i ⟨hsz, V, S, h2, h3, h4⟩ hi hn hed
    obtain ⟨o, ho⟩ := hO i hi
    have n0 := not_on hn
    have hdon : ∀ j ∈ dep.getD i [], On L j ∧ j ≠ i ∧ j < ops.size := fun j hj => by
      obtain ⟨q1, q0, e, he, hb, q⟩ := (facB_ops hc ho).1 j hj
      have h5 := hed o ho e he hb
      refine ⟨?_, q1, q0⟩
      rcases q with rfl | q
      · exact h5
      · have hlt2 : e.on < ops.size := by
          have := ac_of hac i o ho e he hb; omega
        exact h2 e.on hlt2 h5 j q
    have hev : ∀ j, j < ops.size → On L j → ∀ d, D j = some d → a1.eval (.tmp d) = V j := fun j hj h d hd => S.eval j d hj hd h
    have hrest : ∀ t, (∀ j, j < ops.size → D j ≠ some t) → a1.eval (.tmp t) = a.eval (.tmp t) := fun t ht => S.ext t ht
    have hput : ∀ v, Slots ops.size D (upd V i v) (L.setIfInBounds i true) a (a1.put (D i) v) := fun v => S.put i hi (by omega) (fun j d hj h5 h6 => hinj i j d hi hj h5 h6) (fun d hd => hlt i d hi hd) v (fun _ => (upd_same V i v).symm) (fun j _ hj => (upd_ne (fun e => n0 (by rw [← e]; exact hj))).symm)
    have hcl : ∀ j, j < ops.size → On (L.setIfInBounds i true) j → ∀ k ∈ dep.getD j [], On (L.setIfInBounds i true) k := fun j hj h k hk => by
      rcases on_set h with rfl | q
      · exact on_mono (hdon k hk).1
      · exact on_mono (h2 j hj q k hk)
    have hFl : ∀ v w2 j, j < ops.size → On L j → F j V w2 → F j (upd V i v) w2 := fun v w2 j hj q h6 => by
      refine hloc j hj V (upd V i v) w2 (fun k hk => (upd_ne ?_).symm) h6
      rintro rfl
      rcases hk with rfl | hk
      · exact n0 q
      · exact n0 (h2 j hj q k hk)
    by_cases his : i = s
    · subst his
      obtain ⟨hG, hFs⟩ := h3 n0
      have hall : ∀ j ∈ E, j < ops.size ∧ On L j ∧ j ≠ i := fun j hj => by
        obtain ⟨q, e, he, hb, rfl⟩ := facB_ea hc (by rw [hE]; exact hj) ho
        exact ⟨by omega, hed o ho e he hb, by omega⟩
      refine hlast (fun j => On L j) V a1 w1 hG (fun j hj => ⟨(hall j hj).2.1, hFs j (hall j hj).1 (hall j hj).2.1, hev j (hall j hj).1 (hall j hj).2.1⟩) hrest _ (fun v w2 k1 => ?_)
      refine ⟨by rw [Array.size_setIfInBounds]; exact hsz, upd V i v, hput v, hcl, fun h => absurd (on_same (by omega)) h, fun _ => ⟨k1, fun j hj => on_mono (hall j hj).2.1, fun j hj h q1 q2 => ?_⟩⟩
      rcases on_set h with q | q
      · exact absurd q q1
      · exact hFl v w2 j hj q (hfree j hj q1 q2 V w1 w2 (hFs j hj q))
    · have hso : On (L.setIfInBounds i true) s → On L s := fun h => by
        rcases on_set h with q | q
        · exact absurd q.symm his
        · exact q
      by_cases hos : On L s
      · obtain ⟨hF, hEa, hFr⟩ := h4 hos
        have hiE : i ∉ E := fun q => n0 (hEa i q)
        refine hafter i hi his hiE V a1 w1 hF (fun j hj => ⟨fun q1 q2 => hFr j (hdon j hj).2.2 (hdon j hj).1 q1 q2, hev j (hdon j hj).2.2 (hdon j hj).1⟩) _ (fun v k1 => ?_)
        refine ⟨by rw [Array.size_setIfInBounds]; exact hsz, upd V i v, hput v, hcl, fun h => absurd (on_mono hos) h, fun _ => ⟨hfin V _ w1 (fun k hk => (upd_ne ?_).symm) hF, fun j hj => on_mono (hEa j hj), fun j hj h q1 q2 => ?_⟩⟩
        · rintro rfl
          rcases hk with q | q
          · exact his q
          · exact hiE q
        · rcases on_set h with rfl | q
          · exact k1
          · exact hFl v w1 j hj q (hFr j hj q q1 q2)
      · obtain ⟨hG, hFs⟩ := h3 hos
        refine hstep i hi his (fun j => On L j) V a1 w1 hG n0 (fun j hj q k hk => h2 j hj q k hk) (fun j hj => ⟨(hdon j hj).1, hFs j (hdon j hj).2.2 (hdon j hj).1, hev j (hdon j hj).2.2 (hdon j hj).1⟩) hrest _ (fun v w2 k1 k2 k3 => ?_)
        refine ⟨by rw [Array.size_setIfInBounds]; exact hsz, upd V i v, hput v, hcl, fun _ => ⟨?_, fun j hj h => ?_⟩, fun h => absurd (hso h) hos⟩
        · rw [show (fun j => On (L.setIfInBounds i true) j) = fun j => j = i ∨ On L j from funext fun j => propext ⟨fun h => (on_set h).imp (fun e => e) (fun e => e), fun h => h.elim (fun e => by rw [e]; exact on_same (by omega)) on_mono⟩]; exact k2
        · by_cases hji : j = i
          · rw [hji]; exact k3
          · rcases on_set h with q | q
            · exact absurd (by first | exact q | exact q.symm) hji
            · exact hFl v w2 j hj q (hst i j hi hj his (fun e => hos (e ▸ q)) hji (fun e => n0 (h2 j hj q i e)) V w1 w2 (hFs j hj q) k1)
end
end Go.Proofs.Ythbnahagfojfbaa

/- The regions of GlossOrder that make a document and fill it: they draw their order. Conditions: what the walk knows ahead of them. -/
set_option linter.all false
namespace Go.Proofs.Ythbnahagfojfbaa
open Go.RowKit Go.Sort

def paC (g n c : Nat) : Array Value := #[.int .i64 1, .int .i64 0, .string (bs []), .string (bs []), .string (bs []), .string (bs []), .string (bs []), .slice none 0 0, .slice none 0 0, .slice (some ⟨g, 0, none⟩) n c, .slice none 0 0]
def zmC (P : Nat) : Array Value := #[.int .i64 13, .int .i64 0, .string (bs kTerm), .string (bs []), .string (bs []), .string (bs []), .string (bs [122]), .slice none 0 0, .slice (some ⟨P, 0, none⟩) 1 1, .slice none 0 0, .slice none 0 0]
def glC (g n c : Nat) : Array Value := #[.int .i64 13, .int .i64 0, .string (bs kGlos), .string (bs []), .string (bs []), .string (bs []), .string (bs []), .slice none 0 0, .slice none 0 0, .slice none 0 0, .slice (some ⟨g, 0, none⟩) n c]
theorem Try.infoDoc : (Try.prog.info? 45).map (fun i => (i.zero, i.size, i.bytes)) = some (some (.agg #[.slice none 0 0, .slice none 0 0]), 2, 48) := by kernel_rfl
theorem Try.sizeDo2 : (Try.prog.info? 45).map (·.size) = some 2 := by kernel_rfl
theorem Try.sizeCo3 : (Try.prog.info? 26).map (·.size) = some 3 := by kernel_rfl
theorem Only.to_kept {w w' : World} (h : Only (fun _ => False) w w') : Kept w w' := ⟨h.os, h.tape, h.output, h.size, fun k hk => h.block k hk (fun q => q)⟩
theorem Only.mono_or {S S' T : Nat → Prop} {w w' : World} (h : Only (fun i => S i ∨ S' i) w w') (h1 : ∀ i, S i → T i) (h2 : ∀ i, S' i → T i) : Only T w w' := h.mono (fun i _ q => q.elim (h1 i) (h2 i))
theorem Only.trans2 {S S' : Nat → Prop} {a b c : World} (h : Only S a b) (k : Only S' b c) : Only (fun i => S i ∨ S' i) a c := (h.mono (fun _ _ q => .inl q)).trans (k.mono (fun _ _ q => .inr q))
theorem prs_nil {w : World} {a : Option Addr} {c : Nat} (hc : 0 ≤ c) : Prs w (.slice a ([] : List Pr).length c) [] := ⟨a, c, rfl, hc, fun q => absurd q (Nat.lt_irrefl 0)⟩
theorem Only.below_size {S T : Nat → Prop} {w w' : World} (h : Only S w w') (h1 : ∀ i, i < w.heap.size → S i → T i) : Only T w w' := h.mono h1
def ff24 (vA vC : Value) (p1 p2 : Array Value) (n0 m : Nat) (RW : World → Nat → Nat → Prop) : Nat → (Nat → Value) → World → Prop
  | 0, V, _ => V 0 = .agg p1
  | 1, V, _ => V 1 = vA
  | 2, V, _ => V 2 = .agg p2
  | 3, V, _ => True
  | 4, V, w => ∃ g c : Nat, V 4 = .slice (some ⟨g, 0, none⟩) m c ∧ RW w g c
  | 5, V, w => ∃ g c : Nat, V 5 = .agg (glC g m c) ∧ RW w g c
  | 6, V, w => ∃ g c D : Nat, V 6 = .slice (some ⟨D, 0, none⟩) 2 2 ∧ Blk w D 37 (p1 ++ glC g m c) ∧ RW w g c
  | 7, V, w => ∃ g c D : Nat, V 7 = docV (.slice none 0 0) (.slice (some ⟨D, 0, none⟩) 2 2) ∧ Blk w D 37 (p1 ++ glC g m c) ∧ RW w g c
  | 8, V, _ => V 8 = vC
  | 9, V, _ => ∃ vM vB : Value, V 9 = .tuple #[docV vM vB, .int .i64 0]
  | 10, V, _ => V 10 = V 9 ∧ ∃ vM vB : Value, V 9 = .tuple #[docV vM vB, .int .i64 0]
  | 11, V, _ => ∃ vM vB : Value, V 9 = .tuple #[docV vM vB, .int .i64 0] ∧ V 11 = docV vM vB
  | 12, V, _ => V 12 = .int .i64 0
  | 13, V, w => ∃ X : Nat, V 13 = .pointer (some ⟨X, 0, none⟩) ∧ n0 ≤ X ∧ Blk w X 45 #[.slice none 0 0, .slice none 0 0]
  | 15, V, _ => V 15 = .int .i64 0
  | _, _, _ => True

set_option maxRecDepth 100000 in
set_option maxHeartbeats 6400000 in
theorem reg24 {ops : Array Oper} {id : Nat} {a : Act} {wr : World} {Q : Exit → Act → World → Prop} (vA vR vO : Value) (ig : Bs) (B X1 X2 m g2 nU c2 PP : Nat) (RW : World → Nat → Nat → Prop) (U : Nat → Prop) (RES : List Blo)
    (hc : facB ops 16 14 #[[0, 1, 2, 3, 4, 5, 6, 7, 8, 9, 10, 11, 13]] #[[], [], [], [2], [1, 3], [4], [0, 5, 4], [6, 4], [], [7, 8, 4], [9, 4], [10, 9, 4], [10, 9, 4], [], [], [12]] 119 = true)
    (p0 : OpAt ops 0 (.load 37 (.tmp 11)) (some 107))
    (p1 : OpAt ops 1 (.move (.tmp 5)) (some 108))
    (p2 : OpAt ops 2 (.load 37 (.tmp 12)) (some 109))
    (p3 : OpAt ops 3 (.buildSlice 29 1 #[(0, (.tmp 109))]) (some 110))
    (p4 : OpAt ops 4 (.call { callee := .builtin .append, args := #[.tmp 108, .tmp 110], argTypes := #[29, 29] }) (some 111))
    (p5 : OpAt ops 5 (.call { callee := .value (.func 13), args := #[.tmp 111], argTypes := #[29] }) (some 112))
    (p6 : OpAt ops 6 (.buildSlice 29 2 #[(0, (.tmp 107)), (1, (.tmp 112))]) (some 113))
    (p7 : OpAt ops 7 (.build 45 #[(1, (.tmp 113))]) (some 114))
    (p8 : OpAt ops 8 (.load 26 (.tmp 3)) (some 115))
    (p9 : OpAt ops 9 (.call { callee := .value (.func 12), args := #[.tmp 114, .tmp 115], argTypes := #[45, 26] }) (some 116))
    (p10 : OpAt ops 10 (.move (.tmp 116)) (some 106))
    (p11 : OpAt ops 11 (.extract (.tmp 106) 0) (some 117))
    (p12 : OpAt ops 12 (.extract (.tmp 106) 1) (some 118))
    (p13 : OpAt ops 13 (.alloc 45) (some 14))
    (p14 : OpAt ops 14 (.store 45 (.tmp 14) (.tmp 117)) none)
    (p15 : OpAt ops 15 (.assign (.tmp 118)) (some 15))
    (hz : 119 ≤ a.tmps.size) (h3 : a.eval (.tmp 3) = .pointer (some ⟨B, 0, none⟩)) (hA : a.eval (.tmp 5) = vA) (h11 : a.eval (.tmp 11) = .pointer (some ⟨X1, 0, none⟩)) (h12 : a.eval (.tmp 12) = .pointer (some ⟨X2, 0, none⟩))
    (hB : Blk wr B 26 #[vR, vO, .string (bs ig)]) (hX1 : Blk wr X1 37 (paC g2 nU c2)) (hX2 : Blk wr X2 37 (zmC PP))
    (hU : ∀ i, U i → i < wr.heap.size ∧ i ≠ B ∧ i ≠ X1 ∧ i ≠ X2) (hRK : ∀ w w' g c, RW w g c → Kept w w' → RW w' g c)
    (HAP : ∀ (rest : List Oper) (o : Oper) (Q : Exit → Act → World → Prop) (a' : Act) (w' : World) (g3 : Nat), o.guard = none → o.op = .call { callee := .builtin .append, args := #[.tmp 108, .tmp 110], argTypes := #[29, 29] } → Kept wr w' → wr.heap.size ≤ g3 → a'.eval (.tmp 110) = .slice (some ⟨g3, 0, none⟩) 1 1 → a'.eval (.tmp 108) = vA → Blk w' g3 37 (zmC PP) →
      (∀ g c w'', RW w'' g c → Only (fun i => U i ∨ i = g3) w' w'' → wpList Try.prog ops Q rest (a'.put o.dst (.slice (some ⟨g, 0, none⟩) m c)) w'') → wpList Try.prog ops Q (o :: rest) a' w')
    (HFILL : ∀ w' g c D, RW w' g c → Only U wr w' → Blk w' D 37 ((paC g2 nU c2) ++ glC g m c) → Calls Try.prog 12 #[docV (.slice none 0 0) (.slice (some ⟨D, 0, none⟩) 2 2), colV vR vO ig] w' fun e w'' => ∃ vM vB, e = .returned (.tuple #[docV vM vB, .int .i64 0]) ∧ Prs w'' vM [] ∧ Bls (fun g => w'.heap.size ≤ g ∧ g < w''.heap.size) 7 2 w'' vB RES ∧ Kept w' w'')
    (hend : ∀ (V : Nat → Value) (w' : World) (X : Nat) (vM vB : Value), V 13 = .pointer (some ⟨X, 0, none⟩) → V 15 = .int .i64 0 → Blk w' X 45 #[vM, vB] → wr.heap.size ≤ X → Prs w' vM [] → Bls (fun g => g < w'.heap.size) 7 2 w' vB RES → Only U wr w' → Q .normal ((((((((((((((((a.put (some 107) (V 0)).put (some 108) (V 1)).put (some 109) (V 2)).put (some 110) (V 3)).put (some 111) (V 4)).put (some 112) (V 5)).put (some 113) (V 6)).put (some 114) (V 7)).put (some 115) (V 8)).put (some 116) (V 9)).put (some 106) (V 10)).put (some 117) (V 11)).put (some 118) (V 12)).put (some 14) (V 13)).put none (V 14)).put (some 15) (V 15)) w') :
    (Code.region id ops true).wp Try.prog Q a wr := by
  have e0 := opAt_dst p0
  have e1 := opAt_dst p1
  have e2 := opAt_dst p2
  have e3 := opAt_dst p3
  have e4 := opAt_dst p4
  have e5 := opAt_dst p5
  have e6 := opAt_dst p6
  have e7 := opAt_dst p7
  have e8 := opAt_dst p8
  have e9 := opAt_dst p9
  have e10 := opAt_dst p10
  have e11 := opAt_dst p11
  have e12 := opAt_dst p12
  have e13 := opAt_dst p13
  have e14 := opAt_dst p14
  have e15 := opAt_dst p15
  obtain ⟨i0, hi, hz0, hz1, hz2⟩ := info_parts Try.infoBl
  obtain ⟨i1, hi1, hy0, hy1, hy2⟩ := info_parts Try.infoDoc
  have hout : ∀ t, t = 3 ∨ t = 5 ∨ t = 11 ∨ t = 12 → ∀ j, j < 16 → dstB ops j ≠ some t := by
    intro t ht j hj
    obtain rfl | rfl | rfl | rfl | rfl | rfl | rfl | rfl | rfl | rfl | rfl | rfl | rfl | rfl | rfl | rfl : j = 0 ∨ j = 1 ∨ j = 2 ∨ j = 3 ∨ j = 4 ∨ j = 5 ∨ j = 6 ∨ j = 7 ∨ j = 8 ∨ j = 9 ∨ j = 10 ∨ j = 11 ∨ j = 12 ∨ j = 13 ∨ j = 14 ∨ j = 15 := by omega
    all_goals simp [e0, e1, e2, e3, e4, e5, e6, e7, e8, e9, e10, e11, e12, e13, e14, e15]
    all_goals omega
  refine wp_region_joint 16 14 119 _ _ hc (by rfl) hz (ff24 vA (colV vR vO ig) (paC g2 nU c2) (zmC PP) wr.heap.size m RW)
    (fun X V w => Only (fun i => X 4 ∧ U i) wr w ∧ (X 13 → ∃ X3 : Nat, V 13 = .pointer (some ⟨X3, 0, none⟩) ∧ X3 < w.heap.size) ∧ (X 9 → ∃ vM vB : Value, V 9 = .tuple #[docV vM vB, .int .i64 0] ∧ Prs w vM [] ∧ Bls (fun g => g < w.heap.size ∧ (X 13 → V 13 ≠ .pointer (some ⟨g, 0, none⟩))) 7 2 w vB RES) ∧ (¬ X 4 → X 3 → ∃ g : Nat, V 3 = .slice (some ⟨g, 0, none⟩) 1 1 ∧ wr.heap.size ≤ g ∧ Blk w g 37 (zmC PP)))
    (fun i w w' => (i = 4 → ∃ g3 : Nat, Blk w g3 37 (zmC PP) ∧ wr.heap.size ≤ g3 ∧ Only (fun i => U i ∨ i = g3) w w') ∧ (i ≠ 4 → Kept w w'))
    (fun V w => ∃ (X3 : Nat) (vM vB : Value), V 13 = .pointer (some ⟨X3, 0, none⟩) ∧ (∃ d, V 10 = .tuple #[d, .int .i64 0]) ∧ Blk w X3 45 #[vM, vB] ∧ wr.heap.size ≤ X3 ∧ Prs w vM [] ∧ Bls (fun g => g < w.heap.size) 7 2 w vB RES ∧ Only U wr w) ?_ ?_ ?_ ?_ ?_ ?_ ?_ ?_ ?_
  · intro j hj V V' w hV h
    obtain rfl | rfl | rfl | rfl | rfl | rfl | rfl | rfl | rfl | rfl | rfl | rfl | rfl | rfl | rfl | rfl : j = 0 ∨ j = 1 ∨ j = 2 ∨ j = 3 ∨ j = 4 ∨ j = 5 ∨ j = 6 ∨ j = 7 ∨ j = 8 ∨ j = 9 ∨ j = 10 ∨ j = 11 ∨ j = 12 ∨ j = 13 ∨ j = 14 ∨ j = 15 := by omega
    · have q1 := hV 0 (.inl rfl); simp only [ff24] at h ⊢; rw [← q1]; exact h
    · have q1 := hV 1 (.inl rfl); simp only [ff24] at h ⊢; rw [← q1]; exact h
    · have q1 := hV 2 (.inl rfl); simp only [ff24] at h ⊢; rw [← q1]; exact h
    · trivial
    · have q1 := hV 4 (.inl rfl); simp only [ff24] at h ⊢; rw [← q1]; exact h
    · have q1 := hV 5 (.inl rfl); simp only [ff24] at h ⊢; rw [← q1]; exact h
    · have q1 := hV 6 (.inl rfl); simp only [ff24] at h ⊢; rw [← q1]; exact h
    · have q1 := hV 7 (.inl rfl); simp only [ff24] at h ⊢; rw [← q1]; exact h
    · have q1 := hV 8 (.inl rfl); simp only [ff24] at h ⊢; rw [← q1]; exact h
    · have q1 := hV 9 (.inl rfl); simp only [ff24] at h ⊢; rw [← q1]; exact h
    · have q1 := hV 10 (.inl rfl); have q2 := hV 9 (.inr (by simp)); show V' 10 = V' 9 ∧ _; rw [← q1, ← q2]; exact h
    · have q1 := hV 11 (.inl rfl); have q2 := hV 9 (.inr (by simp)); simp only [ff24] at h ⊢; rw [← q1, ← q2]; exact h
    · have q1 := hV 12 (.inl rfl); simp only [ff24] at h ⊢; rw [← q1]; exact h
    · have q1 := hV 13 (.inl rfl); simp only [ff24] at h ⊢; rw [← q1]; exact h
    · exact h
    · have q1 := hV 15 (.inl rfl); simp only [ff24] at h ⊢; rw [← q1]; exact h
  · intro V V' w hV h
    rw [← hV 13 (.inr (by simp)), ← hV 10 (.inr (by simp))]; exact h
  · intro i j hi' hj h1 h2 h3' h4 V w w' h k
    obtain rfl | rfl | rfl | rfl | rfl | rfl | rfl | rfl | rfl | rfl | rfl | rfl | rfl | rfl | rfl | rfl : j = 0 ∨ j = 1 ∨ j = 2 ∨ j = 3 ∨ j = 4 ∨ j = 5 ∨ j = 6 ∨ j = 7 ∨ j = 8 ∨ j = 9 ∨ j = 10 ∨ j = 11 ∨ j = 12 ∨ j = 13 ∨ j = 14 ∨ j = 15 := by omega
    · exact h
    · exact h
    · exact h
    · trivial
    · have k := k.2 (fun e => h3' e.symm)
      obtain ⟨g, c, q1, q2⟩ := h; exact ⟨g, c, q1, hRK _ _ _ _ q2 k⟩
    · have k := k.2 (fun e => h4 (by rw [e]; simp))
      obtain ⟨g, c, q1, q2⟩ := h; exact ⟨g, c, q1, hRK _ _ _ _ q2 k⟩
    · have k := k.2 (fun e => h4 (by rw [e]; simp))
      obtain ⟨g, c, D, q1, q2, q3⟩ := h; exact ⟨g, c, D, q1, q2.kept k, hRK _ _ _ _ q3 k⟩
    · have k := k.2 (fun e => h4 (by rw [e]; simp))
      obtain ⟨g, c, D, q1, q2, q3⟩ := h; exact ⟨g, c, D, q1, q2.kept k, hRK _ _ _ _ q3 k⟩
    · exact h
    · exact h
    · exact h
    · exact h
    · exact h
    · obtain ⟨g, q1, q2, q3⟩ := h
      by_cases hq : i = 4
      · obtain ⟨g3, k1, _, k2⟩ := k.1 hq
        refine ⟨g, q1, q2, q3.onl k2 (fun u => u.elim (fun u => by have := (hU g u).1; omega) (fun e => ?_))⟩
        subst e
        have r1 := q3.cell 0 _ rfl
        have r2 := k1.cell 0 _ rfl
        rw [r1] at r2; cases r2
      · exact ⟨g, q1, q2, q3.kept (k.2 hq)⟩
    · exact absurd rfl h2
    · exact h
  · intro j hj h1 h2 V w w' h
    obtain rfl | rfl : j = 12 ∨ j = 15 := by
      by_cases q : j < 12 ∨ j = 13
      · exfalso; apply h2; simp; omega
      · omega
    · exact h
    · exact h
  · intro V; exact ⟨Only.of_kept (kept_drewN wr 1), fun h => h.elim, fun h => h.elim, fun _ h => h.elim⟩
  · intro i hi' hne X V a' w' hG hnX hcl hF hR K hK
    obtain ⟨G1, G2, G3, G4⟩ := hG
    have t3 := (hR 3 (hout 3 (by omega))).trans h3
    have tA := (hR 5 (hout 5 (by omega))).trans hA
    have t11 := (hR 11 (hout 11 (by omega))).trans h11
    have t12 := (hR 12 (hout 12 (by omega))).trans h12
    have gU : ∀ Y, (∀ i, U i → i ≠ Y) → ¬ (X 4 ∧ U Y) := fun Y h q => h Y q.2 rfl
    have b3 : Blk w' B 26 #[vR, vO, .string (bs ig)] := hB.onl G1 (gU B fun i u => (hU i u).2.1)
    have b11 := hX1.onl G1 (gU X1 fun i u => (hU i u).2.2.1)
    have b12 := hX2.onl G1 (gU X2 fun i u => (hU i u).2.2.2)
    have hsz := G1.size
    have gen : ∀ v w'', i ≠ 4 → i ≠ 9 → i ≠ 13 → i ≠ 3 → Kept w' w'' → ff24 vA (colV vR vO ig) (paC g2 nU c2) (zmC PP) wr.heap.size m RW i (upd V i v) w'' → K (a'.put (dstB ops i) v) w'' := by
      intro v w'' n4 n9 n13 nb k h
      refine hK v w'' ⟨fun e => absurd e n4, fun _ => k⟩ ⟨?_, ?_, ?_, ?_⟩ h
      · exact (G1.trans (Only.of_kept k)).mono (fun i' _ q => ⟨.inr q.1, q.2⟩)
      · rintro (q | q)
        · exact absurd q.symm n13
        · obtain ⟨X3, r1, r2⟩ := G2 q
          exact ⟨X3, by rw [upd_ne (fun e => n13 e.symm)]; exact r1, Nat.lt_of_lt_of_le r2 k.size⟩
      · rintro (q | q)
        · exact absurd q.symm n9
        · obtain ⟨vM, vB, r1, r2, r3⟩ := G3 q
          refine ⟨vM, vB, by rw [upd_ne (fun e => n9 e.symm)]; exact r1, r2.kept k, (r3.kept k).mono (fun g _ q2 => ⟨Nat.lt_of_lt_of_le q2.1 k.size, ?_⟩)⟩
          rintro (q3 | q3)
          · exact absurd q3.symm n13
          · rw [upd_ne (fun e => n13 e.symm)]; exact q2.2 q3
      · intro q4 q
        rcases q with q | q
        · exact absurd q.symm nb
        · obtain ⟨g, r1, r2, r3⟩ := G4 (fun e => q4 (.inr e)) q
          exact ⟨g, by rw [upd_ne (fun e => nb e.symm)]; exact r1, r2, r3.kept k⟩
    obtain rfl | rfl | rfl | rfl | rfl | rfl | rfl | rfl | rfl | rfl | rfl | rfl | rfl | rfl | rfl : i = 0 ∨ i = 1 ∨ i = 2 ∨ i = 3 ∨ i = 4 ∨ i = 5 ∨ i = 6 ∨ i = 7 ∨ i = 8 ∨ i = 9 ∨ i = 10 ∨ i = 11 ∨ i = 12 ∨ i = 13 ∨ i = 15 := by omega
    · refine opAt_list p0 fun o1 ho hg' hd' => ?_
      refine wpList_load_blk hg' 37 (.tmp 11) ho _ (paC g2 nU c2) t11 b11 _ Try.underlying37 rfl Try.sizeBl1 ?_
      rw [hd']
      exact gen _ w' (by omega) (by omega) (by omega) (by omega) (Kept.refl _) (upd_same _ _ _)
    · exact op_move p1 tA (gen _ w' (by omega) (by omega) (by omega) (by omega) (Kept.refl _) (upd_same _ _ _))
    · refine opAt_list p2 fun o1 ho hg' hd' => ?_
      refine wpList_load_blk hg' 37 (.tmp 12) ho _ (zmC PP) t12 b12 _ Try.underlying37 rfl Try.sizeBl1 ?_
      rw [hd']
      exact gen _ w' (by omega) (by omega) (by omega) (by omega) (Kept.refl _) (upd_same _ _ _)
    · have zz := ((hF 2 (by simp)).2.2 _ e2).trans (hF 2 (by simp)).2.1
      refine opAt_list p3 fun o1 ho hg' hd' => ?_
      refine wpList_buildSlice hg' 29 37 1 _ ho (zmC PP) i0 _ Try.underlying29 hi hz0 (by rw [hz1]; decide) (by rw [hz1]; decide) ?_ ?_
      · rw [hz1]
        simp only [List.map_toArray, List.map_cons, List.map_nil, zz]; kernel_rfl
      · rw [hd']
        have hk := kept_alloc w' (.cells (zmC PP) 37)
        refine hK _ _ ⟨fun e => absurd e (by omega), fun _ => hk⟩ ⟨?_, ?_, ?_, ?_⟩ trivial
        · exact (G1.trans (Only.of_kept hk)).mono (fun i' _ q => ⟨.inr q.1, q.2⟩)
        · rintro (q | q)
          · cases q
          · obtain ⟨X3, r1, r2⟩ := G2 q
            exact ⟨X3, by rw [upd_ne (by omega)]; exact r1, Nat.lt_of_lt_of_le r2 hk.size⟩
        · rintro (q | q)
          · cases q
          · exact absurd (hcl 4 (by omega) (hcl 9 (by omega) q 4 (by simp)) 3 (by simp)) hnX
        · intro _ _
          exact ⟨w'.heap.size, upd_same _ _ _, hsz, Blk.new _ _ _⟩
    · obtain ⟨g3, q1, q2, q3⟩ := G4 hnX (hF 3 (by simp)).1
      have zz := ((hF 3 (by simp)).2.2 _ e3).trans q1
      have zm := ((hF 1 (by simp)).2.2 _ e1).trans (hF 1 (by simp)).2.1
      have G1' : Kept wr w' := by
        have := G1; rw [show (fun i => X 4 ∧ U i) = fun _ => False from funext fun i => eq_false (fun q => hnX q.1)] at this
        exact this.to_kept
      refine opAt_list p4 fun o1 ho hg' hd' => ?_
      refine HAP [] o1 _ a' w' g3 hg' ho G1' q2 zz zm q3 ?_
      intro g c w'' h1 h2
      rw [hd']
      refine hK _ w'' ⟨fun _ => ⟨g3, q3, q2, h2⟩, fun e => absurd rfl e⟩ ⟨?_, ?_, ?_, fun e _ => absurd (.inl rfl) e⟩ ⟨g, c, upd_same _ _ _, h1⟩
      · exact (G1.trans2 h2).below_size (fun i' hi' q => q.elim (fun q => ⟨.inl rfl, q.2⟩) (fun q => q.elim (fun q => ⟨.inl rfl, q⟩) (fun q => by omega)))
      · rintro (q | q)
        · cases q
        · obtain ⟨X3, r1, r2⟩ := G2 q
          exact ⟨X3, by rw [upd_ne (by omega)]; exact r1, Nat.lt_of_lt_of_le r2 h2.size⟩
      · rintro (q | q)
        · cases q
        · exact absurd (hcl 9 (by omega) q 4 (by simp)) hnX
    · obtain ⟨g, c, q1, q2⟩ := (hF 4 (by simp)).2.1
      have zz := ((hF 4 (by simp)).2.2 _ e4).trans q1
      refine opAt_enter p5 (f := 13) (args := #[.slice (some ⟨g, 0, none⟩) m c]) (w' := w') (fun o1 ho => ?_) ((glossary_any (some ⟨g, 0, none⟩) m c w').mono fun e w'' ⟨he, hk⟩ => ⟨_, he, gen _ w'' (by omega) (by omega) (by omega) (by omega) hk ⟨g, c, (upd_same _ _ _), hRK _ _ _ _ q2 hk⟩⟩)
      simp only [execOp, ho, resolve, List.map_toArray, List.map_cons, List.map_nil, zz]; simp [go_sem]
    · obtain ⟨g, c, q1, q2⟩ := (hF 5 (by simp)).2.1
      have z0 := ((hF 0 (by simp)).2.2 _ e0).trans (hF 0 (by simp)).2.1
      have z5 := ((hF 5 (by simp)).2.2 _ e5).trans q1
      refine opAt_list p6 fun o1 ho hg' hd' => ?_
      refine wpList_buildSlice hg' 29 37 2 _ ho ((paC g2 nU c2) ++ glC g m c) i0 _ Try.underlying29 hi hz0 (by rw [hz1]; decide) (by rw [hz1]; decide) ?_ ?_
      · rw [hz1]
        simp only [List.map_toArray, List.map_cons, List.map_nil, z0, z5]; kernel_rfl
      · rw [hd']
        exact gen _ _ (by omega) (by omega) (by omega) (by omega) (kept_alloc _ _) ⟨g, c, w'.heap.size, upd_same _ _ _, Blk.new _ _ _, hRK _ _ _ _ q2 (kept_alloc _ _)⟩
    · obtain ⟨g, c, D, q1, q2, q3⟩ := (hF 6 (by simp)).2.1
      have zz := ((hF 6 (by simp)).2.2 _ e6).trans q1
      refine opAt_value p7 (v := docV (.slice none 0 0) (.slice (some ⟨D, 0, none⟩) 2 2)) (w' := w') (fun o1 ho => ?_) (gen _ w' (by omega) (by omega) (by omega) (by omega) (Kept.refl _) ⟨g, c, D, upd_same _ _ _, q2, q3⟩)
      simp only [execOp, ho, List.map_toArray, List.map_cons, List.map_nil, zz]; simp [go_sem, hi1, hy0]
    · refine opAt_list p8 fun o1 ho hg' hd' => ?_
      refine wpList_load_blk hg' 26 (.tmp 3) ho _ _ t3 b3 _ Try.underlying26 rfl Try.sizeCo3 ?_
      rw [hd']
      exact gen _ w' (by omega) (by omega) (by omega) (by omega) (Kept.refl _) (upd_same _ _ _)
    · obtain ⟨g, c, D, q1, q2, q3⟩ := (hF 7 (by simp)).2.1
      have z7 := ((hF 7 (by simp)).2.2 _ e7).trans q1
      have z8 := ((hF 8 (by simp)).2.2 _ e8).trans (hF 8 (by simp)).2.1
      refine opAt_enter p9 (f := 12) (args := #[docV (.slice none 0 0) (.slice (some ⟨D, 0, none⟩) 2 2), colV vR vO ig]) (w' := w') (fun o1 ho => ?_) ((HFILL w' g c D q3 (G1.mono fun i' _ q => q.2) q2).mono fun e w'' ⟨vM, vB, he, hM, hBl, hk⟩ => ⟨_, he, ?_⟩)
      · simp only [execOp, ho, resolve, List.map_toArray, List.map_cons, List.map_nil, z7, z8]; simp [go_sem]
      · refine hK _ w'' ⟨fun e => absurd e (by omega), fun _ => hk⟩ ⟨?_, ?_, ?_, fun e _ => absurd (.inr (hF 4 (by simp)).1) e⟩ ⟨vM, vB, upd_same _ _ _⟩
        · exact (G1.trans (Only.of_kept hk)).mono (fun i' _ q => ⟨.inr q.1, q.2⟩)
        · rintro (q | q)
          · cases q
          · obtain ⟨X3, r1, r2⟩ := G2 q
            exact ⟨X3, by rw [upd_ne (by omega)]; exact r1, Nat.lt_of_lt_of_le r2 hk.size⟩
        · intro _
          refine ⟨vM, vB, upd_same _ _ _, hM, hBl.mono (fun g' _ q => ⟨q.2, ?_⟩)⟩
          rintro (q' | q')
          · cases q'
          · obtain ⟨X3, r1, r2⟩ := G2 q'
            rw [upd_ne (by omega), r1]
            intro e; cases e; have := q.1; omega
    · obtain ⟨vM, vB, q1⟩ := (hF 9 (by simp)).2.1
      exact op_move p10 ((hF 9 (by simp)).2.2 _ e9) (gen _ w' (by omega) (by omega) (by omega) (by omega) (Kept.refl _) ⟨(upd_same _ _ _).trans (upd_ne (by omega)).symm, vM, vB, (upd_ne (by omega)).trans q1⟩)
    · obtain ⟨q1, vM, vB, q2⟩ := (hF 10 (by simp)).2.1
      have zz := ((hF 10 (by simp)).2.2 _ e10).trans (q1.trans q2)
      refine opAt_value p11 (v := docV vM vB) (w' := w') (fun o1 ho => ?_) (gen _ w' (by omega) (by omega) (by omega) (by omega) (Kept.refl _) ⟨vM, vB, (upd_ne (by omega)).trans q2, upd_same _ _ _⟩)
      simp only [execOp, ho, zz]; simp [go_sem]
    · obtain ⟨q1, vM, vB, q2⟩ := (hF 10 (by simp)).2.1
      have zz := ((hF 10 (by simp)).2.2 _ e10).trans (q1.trans q2)
      refine opAt_value p12 (v := .int .i64 0) (w' := w') (fun o1 ho => ?_) (gen _ w' (by omega) (by omega) (by omega) (by omega) (Kept.refl _) (upd_same _ _ _))
      simp only [execOp, ho, zz]; simp [go_sem]
    · refine opAt_value p13 (v := .pointer (some ⟨w'.heap.size, 0, none⟩)) (w' := w'.alloc (.cells #[.slice none 0 0, .slice none 0 0] 45)) (fun o1 ho => ?_) ?_
      · simp only [execOp, ho]; simp [go_sem, hi1, hy0]
      · have hk := kept_alloc w' (.cells #[.slice none 0 0, .slice none 0 0] 45)
        have hb := Blk.new w' 45 #[.slice none 0 0, .slice none 0 0]
        refine hK _ _ ⟨fun e => absurd e (by omega), fun _ => hk⟩ ⟨?_, ?_, ?_, fun q4 q => by
            rcases q with q | q
            · cases q
            · obtain ⟨g, r1, r2, r3⟩ := G4 (fun e => q4 (.inr e)) q
              exact ⟨g, (upd_ne (by omega)).trans r1, r2, r3.kept hk⟩⟩ ⟨w'.heap.size, upd_same _ _ _, hsz, hb⟩
        · exact (G1.trans (Only.of_kept hk)).mono (fun i' _ q => ⟨.inr q.1, q.2⟩)
        · intro _; exact ⟨w'.heap.size, upd_same _ _ _, hb.lt⟩
        · rintro (q | q)
          · cases q
          · obtain ⟨vM, vB, r1, r2, r3⟩ := G3 q
            refine ⟨vM, vB, (upd_ne (by omega)).trans r1, r2.kept hk, (r3.mono (S' := fun g => g < w'.heap.size) (fun g h _ => h)).kept hk |>.mono (fun g _ q2 => ⟨Nat.lt_of_lt_of_le q2 hk.size, fun _ => ?_⟩)⟩
            rw [upd_same]; intro e; cases e; exact Nat.lt_irrefl _ q2
    · exact op_assign p15 (((hF 12 (by simp)).2.2 _ e12).trans (hF 12 (by simp)).2.1) (gen _ w' (by omega) (by omega) (by omega) (by omega) (Kept.refl _) (upd_same _ _ _))
  · intro X V a' w' hG hF hR K hK
    obtain ⟨G1, G2, G3, G4⟩ := hG
    obtain ⟨vM, vB, r1, r2, r3⟩ := G3 (hF 9 (by simp)).1
    obtain ⟨vM', vB', q1, q2⟩ := (hF 11 (by simp)).2.1
    rw [r1] at q1
    cases q1
    obtain ⟨X3, u1, u2, u3⟩ := (hF 13 (by simp)).2.1
    have z11 := ((hF 11 (by simp)).2.2 _ e11).trans q2
    have z13 := ((hF 13 (by simp)).2.2 _ e13).trans u1
    obtain ⟨m1, m2⟩ := (hF 10 (by simp)).2.1
    refine opAt_list p14 fun o1 ho hg' hd' => ?_
    have hone : (#[vM, vB] : Array Value).all (·.oneCell') = true := by
      obtain ⟨aM, cM, rfl, _⟩ := r2.form
      obtain ⟨aB, cB, rfl, _⟩ := r3.form
      simp [Value.oneCell']
    refine wpList_store_blk hg' 45 (.tmp 14) (.tmp 117) ho X3 _ #[vM, vB] z13 z11 u3 rfl Try.sizeDo2 hone ?_
    intro w2 hb2 ho2
    rw [hd']
    refine hK _ w2 ⟨X3, vM, vB, (upd_ne (by omega)).trans u1, ⟨docV vM vB, (upd_ne (by omega)).trans (m1.trans r1)⟩, hb2, u2, ?_, ?_, ?_⟩
    · obtain ⟨aM, cM, rfl, hcM⟩ := r2.form
      exact prs_nil hcM
    · exact (r3.sam (S' := fun _ => True) (Sam.only ho2 (fun g _ q q3 => q.2 (hF 13 (by simp)).1 (by rw [u1, q3]))) (fun _ _ _ => trivial)).mono (fun g h _ => h)
    · exact (G1.trans2 ho2).below_size (fun i' hi' q => q.elim (fun q => q.2) (fun q => by omega))
  · intro i hi' hne hni V a' w' hFin hF K hK
    obtain rfl | rfl : i = 12 ∨ i = 15 := by
      by_cases q : i < 12 ∨ i = 13
      · exfalso; apply hni; simp; omega
      · omega
    · obtain ⟨X3, vM, vB, h1, ⟨d, h2⟩, -⟩ := hFin
      have zz := ((hF 10 (by simp)).2 _ e10).trans h2
      refine opAt_value p12 (v := .int .i64 0) (w' := w') (fun o1 ho => ?_) (hK _ (upd_same _ _ _))
      simp only [execOp, ho, zz]; simp [go_sem]
    · exact op_assign p15 (((hF 12 (by simp)).2 _ e12).trans ((hF 12 (by simp)).1 (by omega) (by simp))) (hK _ (upd_same _ _ _))
  · intro V w' ⟨X3, vM, vB, h1, _, h2, h3', h4, h5, h6⟩ hfr
    have := hend V w' X3 vM vB h1 (hfr 15 (by omega) (by omega) (by simp)) h2 h3' h4 h5 h6
    simp only [putAll, e0, e1, e2, e3, e4, e5, e6, e7, e8, e9, e10, e11, e12, e13, e14, e15]
    exact this
def ff25 (vA vC : Value) (p1 p2 : Array Value) (n0 m : Nat) (RW : World → Nat → Nat → Prop) : Nat → (Nat → Value) → World → Prop
  | 0, V, _ => V 0 = .agg p1
  | 1, V, _ => V 1 = .agg p2
  | 2, V, _ => True
  | 3, V, _ => V 3 = vA
  | 4, V, w => ∃ g c : Nat, V 4 = .slice (some ⟨g, 0, none⟩) m c ∧ RW w g c
  | 5, V, w => ∃ g c : Nat, V 5 = .agg (glC g m c) ∧ RW w g c
  | 6, V, w => ∃ g c D : Nat, V 6 = .slice (some ⟨D, 0, none⟩) 2 2 ∧ Blk w D 37 (p1 ++ glC g m c) ∧ RW w g c
  | 7, V, w => ∃ g c D : Nat, V 7 = docV (.slice none 0 0) (.slice (some ⟨D, 0, none⟩) 2 2) ∧ Blk w D 37 (p1 ++ glC g m c) ∧ RW w g c
  | 8, V, _ => V 8 = vC
  | 9, V, _ => ∃ vM vB : Value, V 9 = .tuple #[docV vM vB, .int .i64 0]
  | 10, V, _ => V 10 = V 9 ∧ ∃ vM vB : Value, V 9 = .tuple #[docV vM vB, .int .i64 0]
  | 11, V, _ => ∃ vM vB : Value, V 9 = .tuple #[docV vM vB, .int .i64 0] ∧ V 11 = docV vM vB
  | 12, V, _ => V 12 = .int .i64 0
  | 13, V, w => ∃ X : Nat, V 13 = .pointer (some ⟨X, 0, none⟩) ∧ n0 ≤ X ∧ Blk w X 45 #[.slice none 0 0, .slice none 0 0]
  | 15, V, _ => V 15 = .int .i64 0
  | _, _, _ => True

set_option maxRecDepth 100000 in
set_option maxHeartbeats 6400000 in
theorem reg25 {ops : Array Oper} {id : Nat} {a : Act} {wr : World} {Q : Exit → Act → World → Prop} (vA vR vO : Value) (ig : Bs) (B X1 X2 m g2 nU c2 PP : Nat) (RW : World → Nat → Nat → Prop) (U : Nat → Prop) (RES : List Blo)
    (hc : facB ops 16 14 #[[0, 1, 2, 3, 4, 5, 6, 7, 8, 9, 10, 11, 13]] #[[], [], [1], [], [2, 3], [4], [0, 5, 4], [6, 4], [], [7, 8, 4], [9, 4], [10, 9, 4], [10, 9, 4], [], [], [12]] 132 = true)
    (p0 : OpAt ops 0 (.load 37 (.tmp 11)) (some 120))
    (p1 : OpAt ops 1 (.load 37 (.tmp 12)) (some 121))
    (p2 : OpAt ops 2 (.buildSlice 29 1 #[(0, (.tmp 121))]) (some 122))
    (p3 : OpAt ops 3 (.move (.tmp 6)) (some 123))
    (p4 : OpAt ops 4 (.call { callee := .builtin .append, args := #[.tmp 122, .tmp 123], argTypes := #[29, 29] }) (some 124))
    (p5 : OpAt ops 5 (.call { callee := .value (.func 13), args := #[.tmp 124], argTypes := #[29] }) (some 125))
    (p6 : OpAt ops 6 (.buildSlice 29 2 #[(0, (.tmp 120)), (1, (.tmp 125))]) (some 126))
    (p7 : OpAt ops 7 (.build 45 #[(1, (.tmp 126))]) (some 127))
    (p8 : OpAt ops 8 (.load 26 (.tmp 3)) (some 128))
    (p9 : OpAt ops 9 (.call { callee := .value (.func 12), args := #[.tmp 127, .tmp 128], argTypes := #[45, 26] }) (some 129))
    (p10 : OpAt ops 10 (.move (.tmp 129)) (some 119))
    (p11 : OpAt ops 11 (.extract (.tmp 119) 0) (some 130))
    (p12 : OpAt ops 12 (.extract (.tmp 119) 1) (some 131))
    (p13 : OpAt ops 13 (.alloc 45) (some 16))
    (p14 : OpAt ops 14 (.store 45 (.tmp 16) (.tmp 130)) none)
    (p15 : OpAt ops 15 (.assign (.tmp 131)) (some 17))
    (hz : 132 ≤ a.tmps.size) (h3 : a.eval (.tmp 3) = .pointer (some ⟨B, 0, none⟩)) (hA : a.eval (.tmp 6) = vA) (h11 : a.eval (.tmp 11) = .pointer (some ⟨X1, 0, none⟩)) (h12 : a.eval (.tmp 12) = .pointer (some ⟨X2, 0, none⟩))
    (hB : Blk wr B 26 #[vR, vO, .string (bs ig)]) (hX1 : Blk wr X1 37 (paC g2 nU c2)) (hX2 : Blk wr X2 37 (zmC PP))
    (hU : ∀ i, U i → i < wr.heap.size ∧ i ≠ B ∧ i ≠ X1 ∧ i ≠ X2) (hRK : ∀ w w' g c, RW w g c → Kept w w' → RW w' g c)
    (HAP : ∀ (rest : List Oper) (o : Oper) (Q : Exit → Act → World → Prop) (a' : Act) (w' : World) (g3 : Nat), o.guard = none → o.op = .call { callee := .builtin .append, args := #[.tmp 122, .tmp 123], argTypes := #[29, 29] } → Kept wr w' → wr.heap.size ≤ g3 → a'.eval (.tmp 122) = .slice (some ⟨g3, 0, none⟩) 1 1 → a'.eval (.tmp 123) = vA → Blk w' g3 37 (zmC PP) →
      (∀ g c w'', RW w'' g c → Only (fun i => U i ∨ i = g3) w' w'' → wpList Try.prog ops Q rest (a'.put o.dst (.slice (some ⟨g, 0, none⟩) m c)) w'') → wpList Try.prog ops Q (o :: rest) a' w')
    (HFILL : ∀ w' g c D, RW w' g c → Only U wr w' → Blk w' D 37 ((paC g2 nU c2) ++ glC g m c) → Calls Try.prog 12 #[docV (.slice none 0 0) (.slice (some ⟨D, 0, none⟩) 2 2), colV vR vO ig] w' fun e w'' => ∃ vM vB, e = .returned (.tuple #[docV vM vB, .int .i64 0]) ∧ Prs w'' vM [] ∧ Bls (fun g => w'.heap.size ≤ g ∧ g < w''.heap.size) 7 2 w'' vB RES ∧ Kept w' w'')
    (hend : ∀ (V : Nat → Value) (w' : World) (X : Nat) (vM vB : Value), V 13 = .pointer (some ⟨X, 0, none⟩) → V 15 = .int .i64 0 → Blk w' X 45 #[vM, vB] → wr.heap.size ≤ X → Prs w' vM [] → Bls (fun g => g < w'.heap.size) 7 2 w' vB RES → Only U wr w' → Q .normal ((((((((((((((((a.put (some 120) (V 0)).put (some 121) (V 1)).put (some 122) (V 2)).put (some 123) (V 3)).put (some 124) (V 4)).put (some 125) (V 5)).put (some 126) (V 6)).put (some 127) (V 7)).put (some 128) (V 8)).put (some 129) (V 9)).put (some 119) (V 10)).put (some 130) (V 11)).put (some 131) (V 12)).put (some 16) (V 13)).put none (V 14)).put (some 17) (V 15)) w') :
    (Code.region id ops true).wp Try.prog Q a wr := by
  have e0 := opAt_dst p0
  have e1 := opAt_dst p1
  have e2 := opAt_dst p2
  have e3 := opAt_dst p3
  have e4 := opAt_dst p4
  have e5 := opAt_dst p5
  have e6 := opAt_dst p6
  have e7 := opAt_dst p7
  have e8 := opAt_dst p8
  have e9 := opAt_dst p9
  have e10 := opAt_dst p10
  have e11 := opAt_dst p11
  have e12 := opAt_dst p12
  have e13 := opAt_dst p13
  have e14 := opAt_dst p14
  have e15 := opAt_dst p15
  obtain ⟨i0, hi, hz0, hz1, hz2⟩ := info_parts Try.infoBl
  obtain ⟨i1, hi1, hy0, hy1, hy2⟩ := info_parts Try.infoDoc
  have hout : ∀ t, t = 3 ∨ t = 6 ∨ t = 11 ∨ t = 12 → ∀ j, j < 16 → dstB ops j ≠ some t := by
    intro t ht j hj
    obtain rfl | rfl | rfl | rfl | rfl | rfl | rfl | rfl | rfl | rfl | rfl | rfl | rfl | rfl | rfl | rfl : j = 0 ∨ j = 1 ∨ j = 2 ∨ j = 3 ∨ j = 4 ∨ j = 5 ∨ j = 6 ∨ j = 7 ∨ j = 8 ∨ j = 9 ∨ j = 10 ∨ j = 11 ∨ j = 12 ∨ j = 13 ∨ j = 14 ∨ j = 15 := by omega
    all_goals simp [e0, e1, e2, e3, e4, e5, e6, e7, e8, e9, e10, e11, e12, e13, e14, e15]
    all_goals omega
  refine wp_region_joint 16 14 132 _ _ hc (by rfl) hz (ff25 vA (colV vR vO ig) (paC g2 nU c2) (zmC PP) wr.heap.size m RW)
    (fun X V w => Only (fun i => X 4 ∧ U i) wr w ∧ (X 13 → ∃ X3 : Nat, V 13 = .pointer (some ⟨X3, 0, none⟩) ∧ X3 < w.heap.size) ∧ (X 9 → ∃ vM vB : Value, V 9 = .tuple #[docV vM vB, .int .i64 0] ∧ Prs w vM [] ∧ Bls (fun g => g < w.heap.size ∧ (X 13 → V 13 ≠ .pointer (some ⟨g, 0, none⟩))) 7 2 w vB RES) ∧ (¬ X 4 → X 2 → ∃ g : Nat, V 2 = .slice (some ⟨g, 0, none⟩) 1 1 ∧ wr.heap.size ≤ g ∧ Blk w g 37 (zmC PP)))
    (fun i w w' => (i = 4 → ∃ g3 : Nat, Blk w g3 37 (zmC PP) ∧ wr.heap.size ≤ g3 ∧ Only (fun i => U i ∨ i = g3) w w') ∧ (i ≠ 4 → Kept w w'))
    (fun V w => ∃ (X3 : Nat) (vM vB : Value), V 13 = .pointer (some ⟨X3, 0, none⟩) ∧ (∃ d, V 10 = .tuple #[d, .int .i64 0]) ∧ Blk w X3 45 #[vM, vB] ∧ wr.heap.size ≤ X3 ∧ Prs w vM [] ∧ Bls (fun g => g < w.heap.size) 7 2 w vB RES ∧ Only U wr w) ?_ ?_ ?_ ?_ ?_ ?_ ?_ ?_ ?_
  · intro j hj V V' w hV h
    obtain rfl | rfl | rfl | rfl | rfl | rfl | rfl | rfl | rfl | rfl | rfl | rfl | rfl | rfl | rfl | rfl : j = 0 ∨ j = 1 ∨ j = 2 ∨ j = 3 ∨ j = 4 ∨ j = 5 ∨ j = 6 ∨ j = 7 ∨ j = 8 ∨ j = 9 ∨ j = 10 ∨ j = 11 ∨ j = 12 ∨ j = 13 ∨ j = 14 ∨ j = 15 := by omega
    · have q1 := hV 0 (.inl rfl); simp only [ff25] at h ⊢; rw [← q1]; exact h
    · have q1 := hV 1 (.inl rfl); simp only [ff25] at h ⊢; rw [← q1]; exact h
    · trivial
    · have q1 := hV 3 (.inl rfl); simp only [ff25] at h ⊢; rw [← q1]; exact h
    · have q1 := hV 4 (.inl rfl); simp only [ff25] at h ⊢; rw [← q1]; exact h
    · have q1 := hV 5 (.inl rfl); simp only [ff25] at h ⊢; rw [← q1]; exact h
    · have q1 := hV 6 (.inl rfl); simp only [ff25] at h ⊢; rw [← q1]; exact h
    · have q1 := hV 7 (.inl rfl); simp only [ff25] at h ⊢; rw [← q1]; exact h
    · have q1 := hV 8 (.inl rfl); simp only [ff25] at h ⊢; rw [← q1]; exact h
    · have q1 := hV 9 (.inl rfl); simp only [ff25] at h ⊢; rw [← q1]; exact h
    · have q1 := hV 10 (.inl rfl); have q2 := hV 9 (.inr (by simp)); show V' 10 = V' 9 ∧ _; rw [← q1, ← q2]; exact h
    · have q1 := hV 11 (.inl rfl); have q2 := hV 9 (.inr (by simp)); simp only [ff25] at h ⊢; rw [← q1, ← q2]; exact h
    · have q1 := hV 12 (.inl rfl); simp only [ff25] at h ⊢; rw [← q1]; exact h
    · have q1 := hV 13 (.inl rfl); simp only [ff25] at h ⊢; rw [← q1]; exact h
    · exact h
    · have q1 := hV 15 (.inl rfl); simp only [ff25] at h ⊢; rw [← q1]; exact h
  · intro V V' w hV h
    rw [← hV 13 (.inr (by simp)), ← hV 10 (.inr (by simp))]; exact h
  · intro i j hi' hj h1 h2 h3' h4 V w w' h k
    obtain rfl | rfl | rfl | rfl | rfl | rfl | rfl | rfl | rfl | rfl | rfl | rfl | rfl | rfl | rfl | rfl : j = 0 ∨ j = 1 ∨ j = 2 ∨ j = 3 ∨ j = 4 ∨ j = 5 ∨ j = 6 ∨ j = 7 ∨ j = 8 ∨ j = 9 ∨ j = 10 ∨ j = 11 ∨ j = 12 ∨ j = 13 ∨ j = 14 ∨ j = 15 := by omega
    · exact h
    · exact h
    · trivial
    · exact h
    · have k := k.2 (fun e => h3' e.symm)
      obtain ⟨g, c, q1, q2⟩ := h; exact ⟨g, c, q1, hRK _ _ _ _ q2 k⟩
    · have k := k.2 (fun e => h4 (by rw [e]; simp))
      obtain ⟨g, c, q1, q2⟩ := h; exact ⟨g, c, q1, hRK _ _ _ _ q2 k⟩
    · have k := k.2 (fun e => h4 (by rw [e]; simp))
      obtain ⟨g, c, D, q1, q2, q3⟩ := h; exact ⟨g, c, D, q1, q2.kept k, hRK _ _ _ _ q3 k⟩
    · have k := k.2 (fun e => h4 (by rw [e]; simp))
      obtain ⟨g, c, D, q1, q2, q3⟩ := h; exact ⟨g, c, D, q1, q2.kept k, hRK _ _ _ _ q3 k⟩
    · exact h
    · exact h
    · exact h
    · exact h
    · exact h
    · obtain ⟨g, q1, q2, q3⟩ := h
      by_cases hq : i = 4
      · obtain ⟨g3, k1, _, k2⟩ := k.1 hq
        refine ⟨g, q1, q2, q3.onl k2 (fun u => u.elim (fun u => by have := (hU g u).1; omega) (fun e => ?_))⟩
        subst e
        have r1 := q3.cell 0 _ rfl
        have r2 := k1.cell 0 _ rfl
        rw [r1] at r2; cases r2
      · exact ⟨g, q1, q2, q3.kept (k.2 hq)⟩
    · exact absurd rfl h2
    · exact h
  · intro j hj h1 h2 V w w' h
    obtain rfl | rfl : j = 12 ∨ j = 15 := by
      by_cases q : j < 12 ∨ j = 13
      · exfalso; apply h2; simp; omega
      · omega
    · exact h
    · exact h
  · intro V; exact ⟨Only.of_kept (kept_drewN wr 1), fun h => h.elim, fun h => h.elim, fun _ h => h.elim⟩
  · intro i hi' hne X V a' w' hG hnX hcl hF hR K hK
    obtain ⟨G1, G2, G3, G4⟩ := hG
    have t3 := (hR 3 (hout 3 (by omega))).trans h3
    have tA := (hR 6 (hout 6 (by omega))).trans hA
    have t11 := (hR 11 (hout 11 (by omega))).trans h11
    have t12 := (hR 12 (hout 12 (by omega))).trans h12
    have gU : ∀ Y, (∀ i, U i → i ≠ Y) → ¬ (X 4 ∧ U Y) := fun Y h q => h Y q.2 rfl
    have b3 : Blk w' B 26 #[vR, vO, .string (bs ig)] := hB.onl G1 (gU B fun i u => (hU i u).2.1)
    have b11 := hX1.onl G1 (gU X1 fun i u => (hU i u).2.2.1)
    have b12 := hX2.onl G1 (gU X2 fun i u => (hU i u).2.2.2)
    have hsz := G1.size
    have gen : ∀ v w'', i ≠ 4 → i ≠ 9 → i ≠ 13 → i ≠ 2 → Kept w' w'' → ff25 vA (colV vR vO ig) (paC g2 nU c2) (zmC PP) wr.heap.size m RW i (upd V i v) w'' → K (a'.put (dstB ops i) v) w'' := by
      intro v w'' n4 n9 n13 nb k h
      refine hK v w'' ⟨fun e => absurd e n4, fun _ => k⟩ ⟨?_, ?_, ?_, ?_⟩ h
      · exact (G1.trans (Only.of_kept k)).mono (fun i' _ q => ⟨.inr q.1, q.2⟩)
      · rintro (q | q)
        · exact absurd q.symm n13
        · obtain ⟨X3, r1, r2⟩ := G2 q
          exact ⟨X3, by rw [upd_ne (fun e => n13 e.symm)]; exact r1, Nat.lt_of_lt_of_le r2 k.size⟩
      · rintro (q | q)
        · exact absurd q.symm n9
        · obtain ⟨vM, vB, r1, r2, r3⟩ := G3 q
          refine ⟨vM, vB, by rw [upd_ne (fun e => n9 e.symm)]; exact r1, r2.kept k, (r3.kept k).mono (fun g _ q2 => ⟨Nat.lt_of_lt_of_le q2.1 k.size, ?_⟩)⟩
          rintro (q3 | q3)
          · exact absurd q3.symm n13
          · rw [upd_ne (fun e => n13 e.symm)]; exact q2.2 q3
      · intro q4 q
        rcases q with q | q
        · exact absurd q.symm nb
        · obtain ⟨g, r1, r2, r3⟩ := G4 (fun e => q4 (.inr e)) q
          exact ⟨g, by rw [upd_ne (fun e => nb e.symm)]; exact r1, r2, r3.kept k⟩
    obtain rfl | rfl | rfl | rfl | rfl | rfl | rfl | rfl | rfl | rfl | rfl | rfl | rfl | rfl | rfl : i = 0 ∨ i = 1 ∨ i = 2 ∨ i = 3 ∨ i = 4 ∨ i = 5 ∨ i = 6 ∨ i = 7 ∨ i = 8 ∨ i = 9 ∨ i = 10 ∨ i = 11 ∨ i = 12 ∨ i = 13 ∨ i = 15 := by omega
    · refine opAt_list p0 fun o1 ho hg' hd' => ?_
      refine wpList_load_blk hg' 37 (.tmp 11) ho _ (paC g2 nU c2) t11 b11 _ Try.underlying37 rfl Try.sizeBl1 ?_
      rw [hd']
      exact gen _ w' (by omega) (by omega) (by omega) (by omega) (Kept.refl _) (upd_same _ _ _)
    · refine opAt_list p1 fun o1 ho hg' hd' => ?_
      refine wpList_load_blk hg' 37 (.tmp 12) ho _ (zmC PP) t12 b12 _ Try.underlying37 rfl Try.sizeBl1 ?_
      rw [hd']
      exact gen _ w' (by omega) (by omega) (by omega) (by omega) (Kept.refl _) (upd_same _ _ _)
    · have zz := ((hF 1 (by simp)).2.2 _ e1).trans (hF 1 (by simp)).2.1
      refine opAt_list p2 fun o1 ho hg' hd' => ?_
      refine wpList_buildSlice hg' 29 37 1 _ ho (zmC PP) i0 _ Try.underlying29 hi hz0 (by rw [hz1]; decide) (by rw [hz1]; decide) ?_ ?_
      · rw [hz1]
        simp only [List.map_toArray, List.map_cons, List.map_nil, zz]; kernel_rfl
      · rw [hd']
        have hk := kept_alloc w' (.cells (zmC PP) 37)
        refine hK _ _ ⟨fun e => absurd e (by omega), fun _ => hk⟩ ⟨?_, ?_, ?_, ?_⟩ trivial
        · exact (G1.trans (Only.of_kept hk)).mono (fun i' _ q => ⟨.inr q.1, q.2⟩)
        · rintro (q | q)
          · cases q
          · obtain ⟨X3, r1, r2⟩ := G2 q
            exact ⟨X3, by rw [upd_ne (by omega)]; exact r1, Nat.lt_of_lt_of_le r2 hk.size⟩
        · rintro (q | q)
          · cases q
          · exact absurd (hcl 4 (by omega) (hcl 9 (by omega) q 4 (by simp)) 2 (by simp)) hnX
        · intro _ _
          exact ⟨w'.heap.size, upd_same _ _ _, hsz, Blk.new _ _ _⟩
    · exact op_move p3 tA (gen _ w' (by omega) (by omega) (by omega) (by omega) (Kept.refl _) (upd_same _ _ _))
    · obtain ⟨g3, q1, q2, q3⟩ := G4 hnX (hF 2 (by simp)).1
      have zz := ((hF 2 (by simp)).2.2 _ e2).trans q1
      have zm := ((hF 3 (by simp)).2.2 _ e3).trans (hF 3 (by simp)).2.1
      have G1' : Kept wr w' := by
        have := G1; rw [show (fun i => X 4 ∧ U i) = fun _ => False from funext fun i => eq_false (fun q => hnX q.1)] at this
        exact this.to_kept
      refine opAt_list p4 fun o1 ho hg' hd' => ?_
      refine HAP [] o1 _ a' w' g3 hg' ho G1' q2 zz zm q3 ?_
      intro g c w'' h1 h2
      rw [hd']
      refine hK _ w'' ⟨fun _ => ⟨g3, q3, q2, h2⟩, fun e => absurd rfl e⟩ ⟨?_, ?_, ?_, fun e _ => absurd (.inl rfl) e⟩ ⟨g, c, upd_same _ _ _, h1⟩
      · exact (G1.trans2 h2).below_size (fun i' hi' q => q.elim (fun q => ⟨.inl rfl, q.2⟩) (fun q => q.elim (fun q => ⟨.inl rfl, q⟩) (fun q => by omega)))
      · rintro (q | q)
        · cases q
        · obtain ⟨X3, r1, r2⟩ := G2 q
          exact ⟨X3, by rw [upd_ne (by omega)]; exact r1, Nat.lt_of_lt_of_le r2 h2.size⟩
      · rintro (q | q)
        · cases q
        · exact absurd (hcl 9 (by omega) q 4 (by simp)) hnX
    · obtain ⟨g, c, q1, q2⟩ := (hF 4 (by simp)).2.1
      have zz := ((hF 4 (by simp)).2.2 _ e4).trans q1
      refine opAt_enter p5 (f := 13) (args := #[.slice (some ⟨g, 0, none⟩) m c]) (w' := w') (fun o1 ho => ?_) ((glossary_any (some ⟨g, 0, none⟩) m c w').mono fun e w'' ⟨he, hk⟩ => ⟨_, he, gen _ w'' (by omega) (by omega) (by omega) (by omega) hk ⟨g, c, (upd_same _ _ _), hRK _ _ _ _ q2 hk⟩⟩)
      simp only [execOp, ho, resolve, List.map_toArray, List.map_cons, List.map_nil, zz]; simp [go_sem]
    · obtain ⟨g, c, q1, q2⟩ := (hF 5 (by simp)).2.1
      have z0 := ((hF 0 (by simp)).2.2 _ e0).trans (hF 0 (by simp)).2.1
      have z5 := ((hF 5 (by simp)).2.2 _ e5).trans q1
      refine opAt_list p6 fun o1 ho hg' hd' => ?_
      refine wpList_buildSlice hg' 29 37 2 _ ho ((paC g2 nU c2) ++ glC g m c) i0 _ Try.underlying29 hi hz0 (by rw [hz1]; decide) (by rw [hz1]; decide) ?_ ?_
      · rw [hz1]
        simp only [List.map_toArray, List.map_cons, List.map_nil, z0, z5]; kernel_rfl
      · rw [hd']
        exact gen _ _ (by omega) (by omega) (by omega) (by omega) (kept_alloc _ _) ⟨g, c, w'.heap.size, upd_same _ _ _, Blk.new _ _ _, hRK _ _ _ _ q2 (kept_alloc _ _)⟩
    · obtain ⟨g, c, D, q1, q2, q3⟩ := (hF 6 (by simp)).2.1
      have zz := ((hF 6 (by simp)).2.2 _ e6).trans q1
      refine opAt_value p7 (v := docV (.slice none 0 0) (.slice (some ⟨D, 0, none⟩) 2 2)) (w' := w') (fun o1 ho => ?_) (gen _ w' (by omega) (by omega) (by omega) (by omega) (Kept.refl _) ⟨g, c, D, upd_same _ _ _, q2, q3⟩)
      simp only [execOp, ho, List.map_toArray, List.map_cons, List.map_nil, zz]; simp [go_sem, hi1, hy0]
    · refine opAt_list p8 fun o1 ho hg' hd' => ?_
      refine wpList_load_blk hg' 26 (.tmp 3) ho _ _ t3 b3 _ Try.underlying26 rfl Try.sizeCo3 ?_
      rw [hd']
      exact gen _ w' (by omega) (by omega) (by omega) (by omega) (Kept.refl _) (upd_same _ _ _)
    · obtain ⟨g, c, D, q1, q2, q3⟩ := (hF 7 (by simp)).2.1
      have z7 := ((hF 7 (by simp)).2.2 _ e7).trans q1
      have z8 := ((hF 8 (by simp)).2.2 _ e8).trans (hF 8 (by simp)).2.1
      refine opAt_enter p9 (f := 12) (args := #[docV (.slice none 0 0) (.slice (some ⟨D, 0, none⟩) 2 2), colV vR vO ig]) (w' := w') (fun o1 ho => ?_) ((HFILL w' g c D q3 (G1.mono fun i' _ q => q.2) q2).mono fun e w'' ⟨vM, vB, he, hM, hBl, hk⟩ => ⟨_, he, ?_⟩)
      · simp only [execOp, ho, resolve, List.map_toArray, List.map_cons, List.map_nil, z7, z8]; simp [go_sem]
      · refine hK _ w'' ⟨fun e => absurd e (by omega), fun _ => hk⟩ ⟨?_, ?_, ?_, fun e _ => absurd (.inr (hF 4 (by simp)).1) e⟩ ⟨vM, vB, upd_same _ _ _⟩
        · exact (G1.trans (Only.of_kept hk)).mono (fun i' _ q => ⟨.inr q.1, q.2⟩)
        · rintro (q | q)
          · cases q
          · obtain ⟨X3, r1, r2⟩ := G2 q
            exact ⟨X3, by rw [upd_ne (by omega)]; exact r1, Nat.lt_of_lt_of_le r2 hk.size⟩
        · intro _
          refine ⟨vM, vB, upd_same _ _ _, hM, hBl.mono (fun g' _ q => ⟨q.2, ?_⟩)⟩
          rintro (q' | q')
          · cases q'
          · obtain ⟨X3, r1, r2⟩ := G2 q'
            rw [upd_ne (by omega), r1]
            intro e; cases e; have := q.1; omega
    · obtain ⟨vM, vB, q1⟩ := (hF 9 (by simp)).2.1
      exact op_move p10 ((hF 9 (by simp)).2.2 _ e9) (gen _ w' (by omega) (by omega) (by omega) (by omega) (Kept.refl _) ⟨(upd_same _ _ _).trans (upd_ne (by omega)).symm, vM, vB, (upd_ne (by omega)).trans q1⟩)
    · obtain ⟨q1, vM, vB, q2⟩ := (hF 10 (by simp)).2.1
      have zz := ((hF 10 (by simp)).2.2 _ e10).trans (q1.trans q2)
      refine opAt_value p11 (v := docV vM vB) (w' := w') (fun o1 ho => ?_) (gen _ w' (by omega) (by omega) (by omega) (by omega) (Kept.refl _) ⟨vM, vB, (upd_ne (by omega)).trans q2, upd_same _ _ _⟩)
      simp only [execOp, ho, zz]; simp [go_sem]
    · obtain ⟨q1, vM, vB, q2⟩ := (hF 10 (by simp)).2.1
      have zz := ((hF 10 (by simp)).2.2 _ e10).trans (q1.trans q2)
      refine opAt_value p12 (v := .int .i64 0) (w' := w') (fun o1 ho => ?_) (gen _ w' (by omega) (by omega) (by omega) (by omega) (Kept.refl _) (upd_same _ _ _))
      simp only [execOp, ho, zz]; simp [go_sem]
    · refine opAt_value p13 (v := .pointer (some ⟨w'.heap.size, 0, none⟩)) (w' := w'.alloc (.cells #[.slice none 0 0, .slice none 0 0] 45)) (fun o1 ho => ?_) ?_
      · simp only [execOp, ho]; simp [go_sem, hi1, hy0]
      · have hk := kept_alloc w' (.cells #[.slice none 0 0, .slice none 0 0] 45)
        have hb := Blk.new w' 45 #[.slice none 0 0, .slice none 0 0]
        refine hK _ _ ⟨fun e => absurd e (by omega), fun _ => hk⟩ ⟨?_, ?_, ?_, fun q4 q => by
            rcases q with q | q
            · cases q
            · obtain ⟨g, r1, r2, r3⟩ := G4 (fun e => q4 (.inr e)) q
              exact ⟨g, (upd_ne (by omega)).trans r1, r2, r3.kept hk⟩⟩ ⟨w'.heap.size, upd_same _ _ _, hsz, hb⟩
        · exact (G1.trans (Only.of_kept hk)).mono (fun i' _ q => ⟨.inr q.1, q.2⟩)
        · intro _; exact ⟨w'.heap.size, upd_same _ _ _, hb.lt⟩
        · rintro (q | q)
          · cases q
          · obtain ⟨vM, vB, r1, r2, r3⟩ := G3 q
            refine ⟨vM, vB, (upd_ne (by omega)).trans r1, r2.kept hk, (r3.mono (S' := fun g => g < w'.heap.size) (fun g h _ => h)).kept hk |>.mono (fun g _ q2 => ⟨Nat.lt_of_lt_of_le q2 hk.size, fun _ => ?_⟩)⟩
            rw [upd_same]; intro e; cases e; exact Nat.lt_irrefl _ q2
    · exact op_assign p15 (((hF 12 (by simp)).2.2 _ e12).trans (hF 12 (by simp)).2.1) (gen _ w' (by omega) (by omega) (by omega) (by omega) (Kept.refl _) (upd_same _ _ _))
  · intro X V a' w' hG hF hR K hK
    obtain ⟨G1, G2, G3, G4⟩ := hG
    obtain ⟨vM, vB, r1, r2, r3⟩ := G3 (hF 9 (by simp)).1
    obtain ⟨vM', vB', q1, q2⟩ := (hF 11 (by simp)).2.1
    rw [r1] at q1
    cases q1
    obtain ⟨X3, u1, u2, u3⟩ := (hF 13 (by simp)).2.1
    have z11 := ((hF 11 (by simp)).2.2 _ e11).trans q2
    have z13 := ((hF 13 (by simp)).2.2 _ e13).trans u1
    obtain ⟨m1, m2⟩ := (hF 10 (by simp)).2.1
    refine opAt_list p14 fun o1 ho hg' hd' => ?_
    have hone : (#[vM, vB] : Array Value).all (·.oneCell') = true := by
      obtain ⟨aM, cM, rfl, _⟩ := r2.form
      obtain ⟨aB, cB, rfl, _⟩ := r3.form
      simp [Value.oneCell']
    refine wpList_store_blk hg' 45 (.tmp 16) (.tmp 130) ho X3 _ #[vM, vB] z13 z11 u3 rfl Try.sizeDo2 hone ?_
    intro w2 hb2 ho2
    rw [hd']
    refine hK _ w2 ⟨X3, vM, vB, (upd_ne (by omega)).trans u1, ⟨docV vM vB, (upd_ne (by omega)).trans (m1.trans r1)⟩, hb2, u2, ?_, ?_, ?_⟩
    · obtain ⟨aM, cM, rfl, hcM⟩ := r2.form
      exact prs_nil hcM
    · exact (r3.sam (S' := fun _ => True) (Sam.only ho2 (fun g _ q q3 => q.2 (hF 13 (by simp)).1 (by rw [u1, q3]))) (fun _ _ _ => trivial)).mono (fun g h _ => h)
    · exact (G1.trans2 ho2).below_size (fun i' hi' q => q.elim (fun q => q.2) (fun q => by omega))
  · intro i hi' hne hni V a' w' hFin hF K hK
    obtain rfl | rfl : i = 12 ∨ i = 15 := by
      by_cases q : i < 12 ∨ i = 13
      · exfalso; apply hni; simp; omega
      · omega
    · obtain ⟨X3, vM, vB, h1, ⟨d, h2⟩, -⟩ := hFin
      have zz := ((hF 10 (by simp)).2 _ e10).trans h2
      refine opAt_value p12 (v := .int .i64 0) (w' := w') (fun o1 ho => ?_) (hK _ (upd_same _ _ _))
      simp only [execOp, ho, zz]; simp [go_sem]
    · exact op_assign p15 (((hF 12 (by simp)).2 _ e12).trans ((hF 12 (by simp)).1 (by omega) (by simp))) (hK _ (upd_same _ _ _))
  · intro V w' ⟨X3, vM, vB, h1, _, h2, h3', h4, h5, h6⟩ hfr
    have := hend V w' X3 vM vB h1 (hfr 15 (by omega) (by omega) (by simp)) h2 h3' h4 h5 h6
    simp only [putAll, e0, e1, e2, e3, e4, e5, e6, e7, e8, e9, e10, e11, e12, e13, e14, e15]
    exact this
end Go.Proofs.Ythbnahagfojfbaa

/- Fill at the documents of GlossOrder. Conditions: names that differ; their lengths. -/
set_option linter.all false
namespace Go.Proofs.Ythbnahagfojfbaa
open Go.RowKit Go.Sort

section
variable {C : Nat} {w w' : World} {t b u : Value} {xt xb : List Blo} {us : List Inl}
theorem R3.lns (h : R3 C w t b u xt xb us) : Lns (fun _ => True) 2 w u us := OutG.row (S := fun _ => True) (inlK 1) h.U (fun _ _ _ => trivial) (fun _ _ => trivial)
theorem R3.blsT (h : R3 C w t b u xt xb us) : Bls (fun _ => True) 2 1 w t xt := OutG.row (S := fun _ => True) (bloK 2 0) h.T (fun _ _ _ => trivial) (fun _ _ => trivial)
theorem R3.blsB (h : R3 C w t b u xt xb us) : Bls (fun _ => True) 2 1 w b xb := OutG.row (S := fun _ => True) (bloK 2 0) h.B (fun _ _ _ => trivial) (fun _ _ => trivial)
/-- The first row is given up. -/
theorem R3.dropT (h : R3 C w t b u xt xb us) (ho : Only (fun i => some i = t.ownBlock) w w') : R3 C w' (.slice none 0 0) b u [] xb us := by
  have nn : ∀ i, (Value.slice none 0 0).ownBlock ≠ some i := fun i q => by simp [Value.ownBlock] at q
  refine ⟨OutG.nil _ _ _ _ _ _, ?_, ?_, fun i q => absurd q (nn i), fun i q => absurd q (nn i), h.bu, h.em⟩
  · exact (h.B.only (bloK 2 0) ho (fun g _ q _ q2 => q.2.1 q2.symm) (fun g q q2 => h.tb g q2.symm q)).mono (bloK 2 0) (fun g _ q => ⟨q.1, nn g, q.2.2⟩)
  · exact (h.U.only (inlK 1) ho (fun g _ q _ q2 => q.2.1 q2.symm) (fun g q q2 => h.tu g q2.symm q)).mono (inlK 1) (fun g _ q => ⟨q.1, nn g, q.2.2⟩)
end
theorem docF (ns : List Bs) (ts : List (Bs × Bs)) : docL (some (ns, kLast)) (some (none, ts)) = [bloP (usL ns kLast), bloG (ts.map bT)] := rfl
theorem fill_at {c : ColT} {ns : List Bs} {ts : List (Bs × Bs)} (hp : ts.Perm (tsF ns)) (hn : (ns ++ [kLast]).Nodup) (hl : ns.length ≤ 12) (ha : ∀ n ∈ ns, n ≠ [] ∧ n.length ≤ 800) (hsc : SmallC c) {RES : List Blo}
    (hres : ∀ ks, (∀ nm, nm ∈ ks ↔ (nm ∈ (tsG (some (none, ts))).map (·.1) ∧ nm ∈ nsU (some (ns, kLast)))) → resL (idsE (tsG (some (none, ts)))) (cfN c) (some (ns, kLast)) (keepG ks (some (none, ts))) = RES)
    {w' : World} {D g m cg g2 nU c2 : Nat} {vR vO : Value} (hb : Blk w' D 37 (paC g2 nU c2 ++ glC g m cg)) (hU : Lns (fun _ => True) 2 w' (.slice (some ⟨g2, 0, none⟩) nU c2) (usL ns kLast)) (hT : Bls (fun _ => True) 2 1 w' (.slice (some ⟨g, 0, none⟩) m cg) (ts.map bT)) (hcol : Col w' vR vO c) :
    Calls Try.prog 12 #[docV (.slice none 0 0) (.slice (some ⟨D, 0, none⟩) 2 2), colV vR vO c.ignore] w' fun e w'' => ∃ vM vB, e = .returned (.tuple #[docV vM vB, .int .i64 0]) ∧ Prs w'' vM [] ∧ Bls (fun g => w'.heap.size ≤ g ∧ g < w''.heap.size) 7 2 w'' vB RES ∧ Kept w' w'' := by
  have hd : Bls (fun _ => True) 2 2 w' (.slice (some ⟨D, 0, none⟩) 2 2) (docL (some (ns, kLast)) (some (none, ts))) := by
    rw [docF]
    exact row_blo (N := 2) (M := 1) (S := fun _ => True) (css := [(paC g2 nU c2).toList, (glC g m cg).toList]) (xs := [bloP (usL ns kLast), bloG (ts.map bT)]) hb rfl (by intro cs h; simp at h; rcases h with rfl | rfl <;> rfl) (fun j cs x h1 h2 => by
      cases j with
      | zero => cases h1; cases h2; exact para_blo hU
      | succ j =>
        cases j with
        | zero => cases h1; cases h2; exact glos_blo hT
        | succ j => simp at h2) trivial (Nat.le_refl _)
  refine (fill_own (fineF hp hn hl ha) (hallF hp) 2 1 _ vR vO c w' (hd.mono (fun g h _ => h)) hcol hsc).mono ?_
  rintro e w'' ⟨vM, vB, ks, he, hk, hM, hB, hK⟩
  rw [hres ks hk] at hB
  exact ⟨vM, vB, he, hM, hB, hK⟩
theorem tsF_ok {ns : List Bs} (ha : ∀ n ∈ ns, n ≠ [] ∧ n.length ≤ 800) {t : Bs × Bs} (h : t ∈ tsF ns) : t.1 ≠ [] ∧ t.2 ≠ [] ∧ t.1.length ≤ 900 ∧ t.2.length ≤ 900 := by
  unfold tsF at h
  rcases List.mem_append.1 h with q | q
  · obtain ⟨n, hn, rfl⟩ := List.mem_map.1 q
    have := ha n hn
    exact ⟨this.1, by simp, by show n.length ≤ 900; omega, by show n.length + 1 ≤ 900; omega⟩
  · rw [List.mem_singleton] at q; subst q; simp [kLast]
theorem idsF_len {ns : List Bs} (ha : ∀ n ∈ ns, n ≠ [] ∧ n.length ≤ 800) (nm : Bs) : (idsE (tsF ns) nm).length ≤ 900 := by
  unfold idsE
  cases h : (tsF ns).find? fun e => e.1 == nm with
  | none => simp
  | some e => exact (tsF_ok ha (List.mem_of_find?_eq_some h)).2.2.2
end Go.Proofs.Ythbnahagfojfbaa
