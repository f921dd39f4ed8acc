/- Pairs in memory, cell by cell. No condition. -/
import Derived.Test.YtpfbdgcgpghifaaGreatDoorK09
import Derived.Test.YtpfbdgcgpghifaaGreatDoorK01
import Derived.Test.YtpfbdgcgpghifaaGreatDoorK12
import Derived.Test.YtpfbdgcgpghifaaGreatDoorK17

set_option linter.all false
namespace Go.Proofs.YtpfbdgcgpghifaaGreatDoor
open Go.RowKit

def pairC (ps : List Pr) : List Value := ps.flatMap fun q => [.string (bs q.1), .string (bs q.2)]
theorem pairC_snoc (ps : List Pr) (q : Pr) : pairC (ps ++ [q]) = pairC ps ++ [.string (bs q.1), .string (bs q.2)] := by simp [pairC]
theorem pairC_at (ps : List Pr) (j : Nat) (q : Pr) (h : ps[j]? = some q) : (pairC ps)[j * 2]? = some (.string (bs q.1)) ∧ (pairC ps)[j * 2 + 1]? = some (.string (bs q.2)) := by
  induction ps generalizing j with
  | nil => cases h
  | cons p ps ih =>
    have e : pairC (p :: ps) = [.string (bs p.1), .string (bs p.2)] ++ pairC ps := by simp [pairC]
    rw [e]
    cases j with
    | zero => cases h; exact ⟨rfl, rfl⟩
    | succ j =>
      have := ih j (by simpa using h)
      rw [List.getElem?_append_right (by simp; omega), List.getElem?_append_right (by simp; omega)]
      simp only [List.length_cons, List.length_nil]
      rw [show (j + 1) * 2 - (0 + 1 + 1) = j * 2 from by omega, show (j + 1) * 2 + 1 - (0 + 1 + 1) = j * 2 + 1 from by omega]
      exact this
theorem Prs.own {w : World} {base : Nat} {e : TypeId} {v : Value} {ps : List Pr} (h : w.ownsRow base e 2 v ps.length (pairC ps)) : Prs w v ps := by
  obtain ⟨a, c, hv, hc, _, h3⟩ := own_cap h
  refine ⟨a, c, hv, hc, fun q => ?_⟩
  obtain ⟨g, ha, _, hg, hcell⟩ := h3 q
  refine ⟨g, 0, ha, hg, fun j x hx => ?_⟩
  obtain ⟨c0, c1⟩ := pairC_at ps j x hx
  simp only [Nat.zero_add]
  exact ⟨hcell _ _ c0, hcell _ _ c1⟩
theorem Tryz.infoPair : (Tryz.prog.info? 62).map (fun i => (i.zero, i.size, i.bytes)) = some (some (.agg #[.string ⟨#[]⟩, .string ⟨#[]⟩]), 2, 32) := by kernel_rfl
theorem add_at (g o j : Nat) : ((⟨g, o, none⟩ : Addr).add j) = ⟨g, o + j, none⟩ := by unfold Addr.add; split <;> simp_all
theorem pairC_read (w : World) (g : Nat) (ps : List Pr) : ∀ (o : Nat), (∀ j q, ps[j]? = some q → w.cell? ⟨g, o + j * 2, none⟩ = some (.string (bs q.1)) ∧ w.cell? ⟨g, o + j * 2 + 1, none⟩ = some (.string (bs q.2))) →
    ∀ j u, (pairC ps)[j]? = some u → w.cell? ⟨g, o + j, none⟩ = some u := by
  induction ps with
  | nil => intro o _ j u h; cases h
  | cons p ps ih =>
    intro o hc j u h
    have e : pairC (p :: ps) = .string (bs p.1) :: .string (bs p.2) :: pairC ps := by simp [pairC]
    rw [e] at h
    obtain ⟨c0, c1⟩ := hc 0 p rfl
    simp only [Nat.zero_mul, Nat.add_zero] at c0 c1
    match j with
    | 0 => simp at h; subst h; exact c0
    | 1 => simp at h; subst h; exact c1
    | j + 2 =>
      have := ih (o + 2) (fun i q hq => by
        have h4 := hc (i + 1) q (by simpa using hq)
        rw [show o + (i + 1) * 2 = o + 2 + i * 2 from by omega] at h4
        exact h4) j u (by simpa using h)
      rw [show o + (j + 2) = o + 2 + j from by omega]; exact this
theorem pairC_len (ps : List Pr) : (pairC ps).length = ps.length * 2 := by
  induction ps with
  | nil => rfl
  | cons p ps ih => have e : pairC (p :: ps) = .string (bs p.1) :: .string (bs p.2) :: pairC ps := by simp [pairC]
                    rw [e]; simp only [List.length_cons, ih]; omega
theorem pairC_one (ps : List Pr) : ∀ u ∈ pairC ps, u.oneCell' = true := by
  intro u hu
  unfold pairC at hu
  rw [List.mem_flatMap] at hu
  obtain ⟨q, _, hq⟩ := hu
  simp at hq
  rcases hq with rfl | rfl <;> rfl
theorem Prs.news {w : World} {ad : Addr} {n c : Nat} {ps : List Pr} (h : Prs w (.slice (some ad) n c) ps) : ∀ j u, (pairC ps)[j]? = some u → w.cell? (ad.add j) = some u := by
  intro j u hu
  obtain ⟨a, c', hv, _, h3⟩ := h
  obtain ⟨rfl, _, _⟩ := Value.slice.inj hv
  have hp : 0 < ps.length := by
    cases ps with
    | nil => cases hu
    | cons p ps => simp
  obtain ⟨g, o, ha, _, hc⟩ := h3 hp
  cases ha
  rw [add_at]
  exact pairC_read w g ps o hc j u hu
theorem Prs.none_ (w : World) : Prs w (.slice none 0 0) [] := ⟨none, 0, rfl, Nat.le_refl _, fun q => absurd q (by simp)⟩
theorem pairC_append (ps qs : List Pr) : pairC (ps ++ qs) = pairC ps ++ pairC qs := by simp [pairC]
end Go.Proofs.YtpfbdgcgpghifaaGreatDoor

/- A collation that a call builds in memory; what a store of a longer list does to it. No condition. -/
set_option linter.all false
namespace Go.Proofs.YtpfbdgcgpghifaaGreatDoor
open Go.RowKit

/-- Two rows that a call owns, of elements of other types, and a block of a third lie apart. -/
theorem own_no_blk {w : World} {base : Nat} {e : TypeId} {size : Nat} {v : Value} {n : Nat} {xs : List Value} {b : Nat} {t : TypeId} {cs : Array Value} (h : w.ownsRow base e size v n xs) (hb : Blk w b t cs) (hne : e ≠ t) : some b ≠ v.ownBlock := by
  rcases h.2 with ⟨rfl, _⟩ | ⟨g, cap, cur, rfl, _, hh, _⟩
  · simp [Value.ownBlock]
  · intro q
    have hg : b = g := by simpa [Value.ownBlock] using q
    subst hg
    unfold Blk at hb
    rw [hb] at hh
    simp only [Option.some.injEq, Obj.cells.injEq] at hh
    exact hne hh.2.1.symm
theorem own_no_own {w : World} {base base' : Nat} {e e' : TypeId} {size size' : Nat} {v v' : Value} {n n' : Nat} {xs xs' : List Value} (h : w.ownsRow base e size v n xs) (h' : w.ownsRow base' e' size' v' n' xs') (hne : e ≠ e') : ∀ g, v.ownBlock = some g → some g ≠ v'.ownBlock := by
  intro g hg
  rcases h.2 with ⟨rfl, _⟩ | ⟨g2, cap, cur, rfl, _, hh, _⟩
  · simp [Value.ownBlock] at hg
  · have hg2 : g2 = g := by simpa [Value.ownBlock] using hg
    subst hg2
    exact own_no_blk h' (show Blk w g2 e cur from hh) (fun q => hne q.symm)
/-- Block b is a collation whose lists the call owns. -/
def ColSt (w : World) (b base : Nat) (c : ColT) : Prop := ∃ vR vO, Blk w b 25 #[vR, vO, .string (bs c.ignore)] ∧ w.ownsRow base 62 2 vR c.ranks.length (pairC c.ranks) ∧ w.ownsRow base 9 1 vO c.order.length (strCells c.order)
theorem ColSt.kept {w w' : World} {b base : Nat} {c : ColT} (h : ColSt w b base c) (k : Kept w w') : ColSt w' b base c := by
  obtain ⟨vR, vO, h1, h2, h3⟩ := h
  exact ⟨vR, vO, h1.kept k, own_kept h2 k, own_kept h3 k⟩
theorem ColSt.col {w : World} {b base : Nat} {c : ColT} {vR vO : Value} (h2 : w.ownsRow base 62 2 vR c.ranks.length (pairC c.ranks)) (h3 : w.ownsRow base 9 1 vO c.order.length (strCells c.order)) : Col w vR vO c := ⟨Prs.own h2, Strs.own h3⟩
/-- A store into block b behind a push on a row. -/
theorem only_push {w w3 : World} {base : Nat} {e : TypeId} {size : Nat} {v : Value} {n : Nat} {xs : List Value} {b o : Nat} {u : Value} (h : w.ownsRow base e size v n xs) (hg : w.grownBy w3 v.ownBlock) : Only (fun i => i = b ∨ base ≤ i) w (w3.setCell ⟨b, o, none⟩ u) :=
  ((Only.grown hg).mono (fun i _ q => .inr (h.lt i q.symm).1)).trans ((Only.setCell b o u).mono (fun i _ q => .inl q))
theorem st_order {w w3 : World} {b base : Nat} {c : ColT} {ws : List Bs} {vR vO v' : Value} (hb : Blk w b 25 #[vR, vO, .string (bs c.ignore)]) (hR : w.ownsRow base 62 2 vR c.ranks.length (pairC c.ranks)) (hO : w.ownsRow base 9 1 vO c.order.length (strCells c.order))
    (hown : w3.ownsRow base 9 1 v' (c.order ++ ws).length (strCells (c.order ++ ws))) (hg : w.grownBy w3 vO.ownBlock) :
    ColSt (w3.setCell ⟨b, 1, none⟩ v') b base { c with order := c.order ++ ws } ∧ Only (fun i => i = b ∨ base ≤ i) w (w3.setCell ⟨b, 1, none⟩ v') := by
  have hne := own_no_blk hO hb (by decide)
  have hb3 : Blk w3 b 25 #[vR, vO, .string (bs c.ignore)] := (hg.block b hb.lt hne).trans hb
  have hR3 : w3.ownsRow base 62 2 vR c.ranks.length (pairC c.ranks) := (Only.grown hg).own hR (fun g hg' => own_no_own hR hO (by decide) g hg')
  refine ⟨⟨vR, v', hb3.set 1 v', ?_, ?_⟩, only_push hO hg⟩
  · exact (Only.setCell b 1 v').own hR3 (fun g hg' q => own_no_blk hR3 hb3 (by decide) (by rw [hg', q]))
  · exact (Only.setCell b 1 v').own hown (fun g hg' q => own_no_blk hown hb3 (by decide) (by rw [hg', q]))
theorem st_ranks {w w3 : World} {b base : Nat} {c : ColT} {ps : List Pr} {vR vO v' : Value} (hb : Blk w b 25 #[vR, vO, .string (bs c.ignore)]) (hR : w.ownsRow base 62 2 vR c.ranks.length (pairC c.ranks)) (hO : w.ownsRow base 9 1 vO c.order.length (strCells c.order))
    (hown : w3.ownsRow base 62 2 v' (c.ranks ++ ps).length (pairC (c.ranks ++ ps))) (hg : w.grownBy w3 vR.ownBlock) :
    ColSt (w3.setCell ⟨b, 0, none⟩ v') b base { c with ranks := c.ranks ++ ps } ∧ Only (fun i => i = b ∨ base ≤ i) w (w3.setCell ⟨b, 0, none⟩ v') := by
  have hne := own_no_blk hR hb (by decide)
  have hb3 : Blk w3 b 25 #[vR, vO, .string (bs c.ignore)] := (hg.block b hb.lt hne).trans hb
  have hO3 : w3.ownsRow base 9 1 vO c.order.length (strCells c.order) := (Only.grown hg).own hO (fun g hg' => own_no_own hO hR (by decide) g hg')
  refine ⟨⟨v', vO, hb3.set 0 v', ?_, ?_⟩, only_push hR hg⟩
  · exact (Only.setCell b 0 v').own hown (fun g hg' q => own_no_blk hown hb3 (by decide) (by rw [hg', q]))
  · exact (Only.setCell b 0 v').own hO3 (fun g hg' q => own_no_blk hO3 hb3 (by decide) (by rw [hg', q]))
theorem st_ignore {w : World} {b base : Nat} {c : ColT} {a : Bs} {vR vO : Value} (hb : Blk w b 25 #[vR, vO, .string (bs c.ignore)]) (hR : w.ownsRow base 62 2 vR c.ranks.length (pairC c.ranks)) (hO : w.ownsRow base 9 1 vO c.order.length (strCells c.order)) :
    ColSt (w.setCell ⟨b, 2, none⟩ (.string (bs a))) b base { c with ignore := a } ∧ Only (fun i => i = b ∨ base ≤ i) w (w.setCell ⟨b, 2, none⟩ (.string (bs a))) := by
  refine ⟨⟨vR, vO, hb.set 2 _, ?_, ?_⟩, (Only.setCell b 2 _).mono (fun i _ q => .inl q)⟩
  · exact (Only.setCell b 2 _).own hR (fun g hg' q => own_no_blk hR hb (by decide) (by rw [hg', q]))
  · exact (Only.setCell b 2 _).own hO (fun g hg' q => own_no_blk hO hb (by decide) (by rw [hg', q]))
theorem pairs_src {w : World} {a : Option Addr} {n c : Nat} {qs : List Pr} (h : Prs w (.slice a n c) qs) : n = qs.length ∧ (0 < n → ∃ g o2, a = some ⟨g, o2, none⟩ ∧ ∀ j u, (pairC qs)[j]? = some u → w.cell? ⟨g, o2 + j, none⟩ = some u) := by
  obtain ⟨a', c', hv, _, h3⟩ := h
  obtain ⟨rfl, rfl, rfl⟩ := Value.slice.inj hv
  refine ⟨rfl, fun q => ?_⟩
  obtain ⟨g, o, ha, _, hc⟩ := h3 q
  exact ⟨g, o, ha, fun j u hu => pairC_read w g qs o hc j u hu⟩
set_option maxRecDepth 100000 in
theorem step_append_prs (w : World) {ops : Array Oper} {o : Oper} {a : Act} {K : Act → World → Prop} {Q : Exit → Act → World → Prop} {E : Prop} (hgd : o.guard = none) (s x : Operand)
    (ho : o.op = .call { callee := .builtin .append, args := #[s, x], argTypes := #[22, 22] })
    (base : Nat) (v : Value) (ps : List Pr) (hs : a.eval s = v) (hown : w.ownsRow base 62 2 v ps.length (pairC ps)) (u : Value) (qs : List Pr) (hx : a.eval x = u) (hu : Prs w u qs)
    (hb : ps.length + qs.length ≤ 2000000) (hbase : base ≤ w.heap.size)
    (h : ∀ v' w', w'.ownsRow base 62 2 v' (ps ++ qs).length (pairC (ps ++ qs)) → w.grownBy w' v.ownBlock → K (a.put o.dst v') w') :
    if Region.wanted o (yielded ops a.tmps) = true then Oper.wp Tryz.prog o a w K Q else E := by
  obtain ⟨i0, hi, hz0, hz1, hz2⟩ := info_parts Tryz.infoPair
  have hu' := hu
  obtain ⟨a', c', rfl, hc, _⟩ := hu
  obtain ⟨_, hsrc⟩ := pairs_src hu'
  refine step_append_any w hgd s x 22 ho base 62 i0 (.agg #[.string ⟨#[]⟩, .string ⟨#[]⟩]) 2 32 Tryz.underlying22 hi hz0 hz1 hz2 rfl (by decide) v ps.length (pairC ps) hs hown a' qs.length c' (pairC qs) hx (pairC_len qs) hsrc (pairC_one qs) (by unfold maxLen; omega) (by omega) hbase (fun v' w' h1 h2 => h v' w' ?_ h2)
  rw [List.length_append, pairC_append]; exact h1
theorem new_prs (w : World) (x y : Bs) : Prs (w.alloc (.cells #[.string (bs x), .string (bs y)] 62)) (.slice (some ⟨w.heap.size, 0, none⟩) 1 1) [(x, y)] := by
  refine ⟨_, _, rfl, Nat.le_refl _, fun _ => ⟨w.heap.size, 0, rfl, by simp, fun j q hq => ?_⟩⟩
  have hb := Blk.new w 62 #[.string (bs x), .string (bs y)]
  cases j with
  | zero => cases hq; exact ⟨hb.cell 0 _ rfl, hb.cell 1 _ rfl⟩
  | succ j => simp at hq
theorem Strs.tail {w : World} {g o c n : Nat} {x : Bs} {xs : List Bs} (h : Strs w (.slice (some ⟨g, o, none⟩) n c) (x :: xs)) : Strs w (.slice (some ⟨g, o + 1, none⟩) xs.length (c - 1)) xs := by
  obtain ⟨a, c', hv, hc, h3⟩ := h
  obtain ⟨rfl, rfl, rfl⟩ := Value.slice.inj hv
  obtain ⟨g', o', he, hg, hcell⟩ := h3 (by simp)
  cases he
  refine ⟨_, _, rfl, by simp at hc; omega, fun _ => ⟨g, o + 1, rfl, hg, fun j y hy => ?_⟩⟩
  have := hcell (j + 1) y (by simpa using hy)
  rwa [show o + (j + 1) = o + 1 + j from by omega] at this
end Go.Proofs.YtpfbdgcgpghifaaGreatDoor
