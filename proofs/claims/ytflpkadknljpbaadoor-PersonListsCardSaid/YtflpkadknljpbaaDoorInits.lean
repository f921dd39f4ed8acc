/- person.Initials. Conditions: the length of the given name. -/
import Derived.Test.YtflpkadknljpbaaDoorIni
import Derived.Laws.Cover4
set_option linter.all false
namespace Go.Proofs.YtflpkadknljpbaaDoor
open Go.RowKit

def runesL (ns : List Int) : Bs := ns.flatMap encL
theorem runesL_snoc (ns : List Int) (c : Int) : runesL (ns ++ [c]) = runesL ns ++ encL c := by simp [runesL]
theorem runesL_two (ns : List Int) (c d : Int) : runesL (ns ++ [c, d]) = runesL ns ++ encL c ++ encL d := by simp [runesL]
theorem foldl_runes : ∀ (ns : List Int) (x : Bs), ns.foldl (fun r n => r ++ Utf8.encode n) (bs x) = bs (x ++ runesL ns)
  | [], x => by simp [runesL]
  | n :: ns, x => by
    rw [List.foldl_cons, encode_bs, bs_append, foldl_runes ns]
    simp [runesL]
theorem runesBytes_bs (ns : List Int) : runesBytes ns = bs (runesL ns) := by
  unfold runesBytes; rw [empty_bs, foldl_runes]; simp
def runeCells (ns : List Int) : List Value := ns.map (Value.int .i32)
theorem run_runes (w : World) (base : Nat) (v : Value) (ns : List Int) (h : w.ownsRow base 21 1 v ns.length (runeCells ns)) :
    (convert 70 9 v).run Tryd.prog w = .ok (.string (bs (runesL ns))) w := by
  rcases h.2 with ⟨rfl, hn⟩ | ⟨g, cap, cur, rfl, _⟩
  · obtain rfl : ns = [] := List.length_eq_zero_iff.1 hn
    rw [run_convert_runes_string w 70 9 21 none 0 0 Tryd.underlying70 Tryd.underlying21 Tryd.underlying9]
    simp [Conv.runesToString, runesL, Sem.run_pure]
  · rw [run_convert_runes_string w 70 9 21 _ _ _ Tryd.underlying70 Tryd.underlying21 Tryd.underlying9]
    have hc := h.cells (g := g) rfl
    have hl := run_loadCells_list (P := Tryd.prog) (w := w) ⟨g, 0, none⟩ (runeCells ns) hc
    have e : (runeCells ns).length = ns.length := by simp [runeCells]
    rw [e] at hl
    rw [run_runesToString w ⟨g, 0, none⟩ ns.length cap ns hl, runesBytes_bs]

theorem ini_step (g : Bs) (pos : Nat) (h : pos < g.length) (c n : Int) (hd : dec (bs g) pos = (c, n)) (bg iw sm : Bool) :
    (c = 32 ∧ n = 1 ∧ ini (g.drop pos) bg iw sm = ini (g.drop (pos + 1)) true false sm) ∨
    (c = 45 ∧ n = 1 ∧ ini (g.drop pos) bg iw sm = ini (g.drop (pos + 1)) true iw sm) ∨
    (c ≠ 32 ∧ c ≠ 45 ∧ ini (g.drop pos) bg iw sm = if bg then lead iw sm ++ (encL c ++ [46]) ++ ini (g.drop (pos + n.toNat)) false true true else ini (g.drop (pos + n.toNat)) false iw sm) := by
  have hp : pieceI (g.drop pos) = encL c ++ [46] := by unfold pieceI; rw [dec_shift, hd]
  have hcons : g.drop pos = g[pos] :: g.drop (pos + 1) := List.drop_eq_getElem_cons h
  have ha := at8_get g pos h
  by_cases hlo : at8 g pos < 128
  · have hdd := dec_ascii g pos hlo
    rw [hd] at hdd
    obtain ⟨rfl, rfl⟩ := Prod.mk.injEq _ _ _ _ ▸ hdd
    rw [hcons] at hp ⊢
    rw [ini_cons]
    have k32 := u8_int g[pos] 32 (by decide)
    have k45 := u8_int g[pos] 45 (by decide)
    rw [← ha] at k32 k45
    by_cases q : g[pos] = 32
    · left; exact ⟨k32.2 q, rfl, by rw [if_pos q]⟩
    by_cases q2 : g[pos] = 45
    · right; left; exact ⟨k45.2 q2, rfl, by rw [if_neg q, if_pos q2]⟩
    · right; right
      refine ⟨fun e => q (k32.1 e), fun e => q2 (k45.1 e), ?_⟩
      rw [if_neg q, if_neg q2, hp]; rfl
  · right; right
    obtain ⟨hc, hbytes⟩ := dec_high (bs g) pos (by rw [byteAt_bs]; omega)
    rw [hd] at hc hbytes
    simp only at hc hbytes
    have hb := dec_bounds (bs g) pos h
    rw [hd] at hb
    simp only [bs_size] at hb
    refine ⟨by omega, by omega, ?_⟩
    have hq : g[pos] ≠ 32 := fun e => by rw [e] at ha; have : ((32 : UInt8).toNat : Int) = 32 := by decide
                                         omega
    have hq2 : g[pos] ≠ 45 := fun e => by rw [e] at ha; have : ((45 : UInt8).toNat : Int) = 45 := by decide
                                          omega
    have hsplit : g.drop (pos + 1) = (g.drop (pos + 1)).take (n.toNat - 1) ++ g.drop (pos + n.toNat) := by
      conv => lhs; rw [← List.take_append_drop (n.toNat - 1) (g.drop (pos + 1))]
      rw [List.drop_drop, show pos + 1 + (n.toNat - 1) = pos + n.toNat from by omega]
    have hnot : ∀ x ∈ (g.drop (pos + 1)).take (n.toNat - 1), 128 ≤ (x.toNat : Int) := by
      intro x hx
      obtain ⟨j, hj, rfl⟩ := List.getElem_of_mem hx
      simp only [List.length_take, List.length_drop] at hj
      have hbj := hbytes (1 + j) (by omega)
      rw [byteAt_bs, ← Nat.add_assoc, at8_get g (pos + 1 + j) (by omega)] at hbj
      simp only [List.getElem_take, List.getElem_drop]
      exact hbj
    have hsk : ∀ iw sm, ini (g.drop (pos + 1)) false iw sm = ini (g.drop (pos + n.toNat)) false iw sm := by
      intro iw sm
      rw [hsplit]
      exact ini_skip _ _ iw sm (fun q => by have := hnot _ q; revert this; decide) (fun q => by have := hnot _ q; revert this; decide)
    rw [hcons] at hp ⊢
    rw [ini_cons, if_neg hq, if_neg hq2, hp, hsk, hsk]; rfl

theorem Tryd.infoRune : (Tryd.prog.info? 21).map (fun i => (i.zero, i.size, i.bytes)) = some (some (.int .i32 0), 1, 4) := by kernel_rfl

/-- What an append on the call's own row leaves of the rest. -/
theorem grown_rest {w w' : World} {base k : Nat} {e : TypeId} {size : Nat} {v : Value} {n : Nat} {xs : List Value} {o : Obj} (h : w.ownsRow base e size v n xs) (hg : (w.alloc o).grownBy w' v.ownBlock) (hk : k < base) (hb : base ≤ w.heap.size) :
    w'.heap[k]? = w.heap[k]? ∧ base ≤ w'.heap.size ∧ Below base w w' := by
  have hB : Below base w w' := ((Below.refl base w).alloc hb o).trans (grown_below (h.alloc o) hg (by simp; omega))
  exact ⟨hB.block k hk, by have := hB.size; omega, hB⟩
theorem own_iterAt {w : World} {base : Nat} {e : TypeId} {size : Nat} {v : Value} {n : Nat} {xs : List Value} (h : w.ownsRow base e size v n xs) (k : Nat) (hk : k < base) (s : ByteArray) (pos : Nat) : (w.iterAt k s pos).ownsRow base e size v n xs := by
  obtain ⟨h1, h2⟩ := h
  refine ⟨h1, ?_⟩
  rcases h2 with h2 | ⟨g, cap, cur, hv, hg, hh, r⟩
  · exact Or.inl h2
  · exact Or.inr ⟨g, cap, cur, hv, hg, by rw [Lib.iterAt_other _ _ _ _ _ (by omega)]; exact hh, r⟩

set_option maxRecDepth 100000 in
set_option maxHeartbeats 6400000 in
theorem initials_any (f g p s : Bs) (w : World) (hs : g.length ≤ 10000000) :
    Calls Tryd.prog 22 #[persV f g p s] w fun e w' => e = .returned (.string (bs (initialsL g))) ∧ Kept w w' := by
  obtain ⟨i0, hi, hz0, hz1, hz2⟩ := info_parts Tryd.infoRune
  have HI : Hid (initialsL g = runesL [] ++ ini (g.drop 0) true false false) := by show _ = _; rw [initials_ini]; simp [runesL]
  go_enter Tryd.func22, Tryd.ntmps22
  go_wp2_with fail
  try simp only [mk_bs]
  go_loopw [3, 4, 5] (fun v bg iw wr => ∃ (pos : Nat) (ns : List Int) (b i : Bool), pos ≤ g.length ∧ ns.length ≤ 3 * pos ∧ bg = .bool b ∧ iw = .bool i ∧ wr.heap[w.heap.size + 1]? = some (.stringIter (bs g) pos) ∧ wr.ownsRow (w.heap.size + 2) 21 1 v ns.length (runeCells ns) ∧ w.heap.size + 2 ≤ wr.heap.size ∧ Kept w wr ∧ Hid (initialsL g = runesL ns ++ ini (g.drop pos) b i (!ns.isEmpty))) (fun _ _ _ wr => g.length - wr.iterPos (w.heap.size + 1))
  case atStart => exact ⟨0, [], true, false, Nat.zero_le _, Nat.le_refl _, rfl, rfl, by have := World.iter_heap (w.alloc (.cells #[.string (bs f), .string (bs g), .string (bs p), .string (bs s)] 24)) (bs g) 0; simpa using this, World.ownsRow_nil _ _ _ _, by simp [World.iter], (kept_alloc _ _).trans (kept_alloc _ _), HI⟩
  case round =>
    obtain ⟨pos, ns, b, i, hp, hnl, rfl, rfl, hit, hown, hsz, hk, HA⟩ := hrel
    have hip : wr.iterPos (w.heap.size + 1) = pos := by simp [World.iterPos, hit]
    by_cases hlt : pos < g.length
    · have nx := fun ty => run_next_k (P := Tryd.prog) wr (w.heap.size + 1) (bs g) pos ty hit hlt
      obtain ⟨c, n, hd⟩ : ∃ c n, dec (bs g) pos = (c, n) := ⟨(dec (bs g) pos).1, (dec (bs g) pos).2, rfl⟩
      have hb := dec_bounds (bs g) pos hlt
      have hst := ini_step g pos hlt c n hd b i (!ns.isEmpty)
      rw [hd] at nx hb
      simp only [bs_size] at nx hb
      obtain ⟨b1, b2, b3, b4, b5⟩ := hb
      obtain ⟨n, rfl⟩ : ∃ n' : Nat, n = n' := ⟨n.toNat, by omega⟩
      simp only [Int.toNat_natCast] at nx hst
      have HIT : Hid ((wr.iterAt (w.heap.size + 1) (bs g) (pos + n)).heap[w.heap.size + 1]? = some (.stringIter (bs g) (pos + n))) := Lib.iterAt_heap wr (w.heap.size + 1) (bs g) pos (pos + n) hit
      have HK2 : Hid (Kept w (wr.iterAt (w.heap.size + 1) (bs g) (pos + n))) := Lib.below_iterAt hk (by omega) (bs g) _
      have HO2 := Lib.hid (own_iterAt hown (w.heap.size + 1) (by omega) (bs g) (pos + n))
      have hsz2 : w.heap.size + 2 ≤ (wr.iterAt (w.heap.size + 1) (bs g) (pos + n)).heap.size := by rw [Lib.iterAt_size]; exact hsz
      have HIP := Lib.hid hip
      clear hip hk hown hd hit
      generalize wr.iterAt (w.heap.size + 1) (bs g) (pos + n) = wq at *
      have HIQ : Hid (wq.iterPos (w.heap.size + 1) = pos + n) := by show _ = _; have := HIT.out; simp [World.iterPos, this]
      have hpn : pos + n ≤ g.length := by omega
      rcases hst with ⟨rfl, h1, hst⟩ | ⟨rfl, h1, hst⟩ | ⟨h1, h2, hst⟩
      · have HST := Lib.hid hst
        obtain rfl : n = 1 := by omega
        clear hst h1
        go_wp2_with fail
        go_roundw
        case rel => exact ⟨pos + 1, ns, true, false, by omega, by omega, rfl, rfl, HIT.out, HO2.out, hsz2, HK2.out, by show _ = _; rw [HA.out, HST.out]⟩
        case measure => rw [HIP.out, HIQ.out]; omega
      · have HST := Lib.hid hst
        obtain rfl : n = 1 := by omega
        clear hst h1
        go_wp2_with fail
        go_roundw
        case rel => exact ⟨pos + 1, ns, true, i, by omega, by omega, rfl, rfl, HIT.out, HO2.out, hsz2, HK2.out, by show _ = _; rw [HA.out, HST.out]⟩
        case measure => rw [HIP.out, HIQ.out]; omega
      · have t1 : (c == 32) = false := by simpa using h1
        have t2 : (c == 45) = false := by simpa using h2
        have HST := Lib.hid hst
        clear hst h1 h2
        cases b
        · go_wp2_with fail
          go_roundw
          case rel => exact ⟨pos + n, ns, false, i, by omega, by omega, rfl, rfl, HIT.out, HO2.out, hsz2, HK2.out, by show _ = _; rw [HA.out, HST.out]; rfl⟩
          case measure => rw [HIP.out, HIQ.out]; omega
        · have hown := HO2.out
          clear HO2
          have HNE : Hid (∀ x y z : Int, (ns ++ [x, y, z]).isEmpty = false) := by intro x y z; cases ns <;> rfl
          obtain ⟨av, cv, hv, q1, q2, _⟩ := own_cap hown
          subst hv
          cases i
          · by_cases hns : ns = []
            · subst hns
              simp only [List.length_nil, runeCells, List.map_nil] at hown hnl
              go_wp2_with (at_builtin; refine wpList_append_own _ rfl _ _ 70 rfl (w.heap.size + 2) 21 i0 (.int .i32 0) 1 4 Tryd.underlying70 hi hz0 hz1 hz2 rfl (by decide) _ _ _ rfl (hown.alloc _) ⟨wq.heap.size, 0, none⟩ 2 2 [.int .i32 c, .int .i32 46] rfl rfl (by exact new_cells _ #[.int .i32 c, .int .i32 46] _ _ (by simp)) (by intro u hu; simp at hu; first | (subst hu; rfl) | (rcases hu with rfl | rfl <;> rfl)) (by unfold maxLen; first | omega | (simp; omega)) (by first | omega | (simp; omega)) (by first | omega | (simp; omega)) ?_)
              intro v2 w3 hown2 hgrow _
              obtain ⟨r1, hown2z, r3⟩ := grown_rest (k := w.heap.size + 1) hown hgrow (by omega) (by omega)
              have HIT2 := Lib.hid (r1.trans HIT.out)
              have HB2 := Lib.hid r3
              have HOX : Hid (w3.ownsRow (w.heap.size + 2) 21 1 v2 ([c, 46] : List Int).length (runeCells [c, 46])) := by show World.ownsRow _ _ _ _ _ _ _; simpa [runeCells] using hown2
              clear hown2 hgrow r1 r3 hown
              go_wp2_with fail
              go_roundw
              case rel => exact ⟨pos + n, [c, 46], false, true, by omega, by simp; omega, rfl, rfl, HIT2.out, HOX.out, hown2z, HK2.out.trans' (HB2.out.mono (by omega)), by show _ = _; rw [HA.out, HST.out]; simp [lead, runesL, show encL 46 = [46] from rfl]⟩
              case measure => rw [HIP.out, show w3.iterPos (w.heap.size + 1) = pos + n from by have := HIT2.out; simp [World.iterPos, this]]; omega
            · have hpos : 0 < ns.length := List.length_pos_iff.2 hns
              have hne : ns.isEmpty = false := by simpa using hns
              go_wp2_with (at_builtin; refine wpList_append_own _ rfl _ _ 70 rfl (w.heap.size + 2) 21 i0 (.int .i32 0) 1 4 Tryd.underlying70 hi hz0 hz1 hz2 rfl (by decide) _ _ _ rfl (hown.alloc _) ⟨wq.heap.size, 0, none⟩ 1 1 [.int .i32 32] rfl rfl (by exact new_cells _ #[.int .i32 32] _ _ (by simp)) (by intro u hu; simp at hu; first | (subst hu; rfl) | (rcases hu with rfl | rfl <;> rfl)) (by unfold maxLen; first | omega | (simp; omega)) (by first | omega | (simp; omega)) (by first | omega | (simp; omega)) ?_)
              intro v1 w2 hown1 hgrow _
              obtain ⟨r1, hown1z, r3⟩ := grown_rest (k := w.heap.size + 1) hown hgrow (by omega) (by omega)
              rw [show runeCells ns ++ [Value.int .i32 32] = runeCells (ns ++ [32]) from by simp [runeCells]] at hown1
              have HIT1 := Lib.hid (r1.trans HIT.out)
              have HB1 := Lib.hid r3
              have HO1 : Hid (w2.ownsRow (w.heap.size + 2) 21 1 v1 (ns ++ [32]).length (runeCells (ns ++ [32]))) := by show World.ownsRow _ _ _ _ _ _ _; simpa using hown1
              clear hown1 hgrow r1 r3 hown
              have hown1 := HO1.out
              go_wp2_with (at_builtin; refine wpList_append_own _ rfl _ _ 70 rfl (w.heap.size + 2) 21 i0 (.int .i32 0) 1 4 Tryd.underlying70 hi hz0 hz1 hz2 rfl (by decide) _ _ _ rfl (hown1.alloc _) ⟨w2.heap.size, 0, none⟩ 2 2 [.int .i32 c, .int .i32 46] rfl rfl (by exact new_cells _ #[.int .i32 c, .int .i32 46] _ _ (by simp)) (by intro u hu; simp at hu; first | (subst hu; rfl) | (rcases hu with rfl | rfl <;> rfl)) (by unfold maxLen; first | omega | (simp; omega)) (by first | omega | (simp; omega)) (by first | omega | (simp; omega)) ?_)
              intro v2 w3 hown2 hgrow _
              obtain ⟨r1, hown2z, r3⟩ := grown_rest (k := w.heap.size + 1) hown1 hgrow (by omega) (by omega)
              have HIT2 := Lib.hid (r1.trans HIT1.out)
              have HB2 := Lib.hid r3
              have HOX : Hid (w3.ownsRow (w.heap.size + 2) 21 1 v2 ((ns ++ [32]) ++ [c, 46]).length (runeCells ((ns ++ [32]) ++ [c, 46]))) := by show World.ownsRow _ _ _ _ _ _ _; simpa [runeCells] using hown2
              clear hown2 hgrow r1 r3 hown1
              go_wp2_with fail
              go_roundw
              case rel => exact ⟨pos + n, (ns ++ [32]) ++ [c, 46], false, true, by omega, by simp; omega, rfl, rfl, HIT2.out, HOX.out, hown2z, HK2.out.trans' ((HB1.out.trans HB2.out).mono (by omega)), by show _ = _; rw [HA.out, HST.out, runesL_two, runesL_snoc]; simp [lead, HNE.out, hne, show encL 32 = [32] from rfl, show encL 46 = [46] from rfl]⟩
              case measure => rw [HIP.out, show w3.iterPos (w.heap.size + 1) = pos + n from by have := HIT2.out; simp [World.iterPos, this]]; omega
          · obtain ⟨sm, hsm⟩ : ∃ sm, (!ns.isEmpty) = sm := ⟨_, rfl⟩
            go_wp2_with (at_builtin; refine wpList_append_own _ rfl _ _ 70 rfl (w.heap.size + 2) 21 i0 (.int .i32 0) 1 4 Tryd.underlying70 hi hz0 hz1 hz2 rfl (by decide) _ _ _ rfl (hown.alloc _) ⟨wq.heap.size, 0, none⟩ 1 1 [.int .i32 45] rfl rfl (by exact new_cells _ #[.int .i32 45] _ _ (by simp)) (by intro u hu; simp at hu; first | (subst hu; rfl) | (rcases hu with rfl | rfl <;> rfl)) (by unfold maxLen; first | omega | (simp; omega)) (by first | omega | (simp; omega)) (by first | omega | (simp; omega)) ?_)
            intro v1 w2 hown1 hgrow _
            obtain ⟨r1, hown1z, r3⟩ := grown_rest (k := w.heap.size + 1) hown hgrow (by omega) (by omega)
            rw [show runeCells ns ++ [Value.int .i32 45] = runeCells (ns ++ [45]) from by simp [runeCells]] at hown1
            have HIT1 := Lib.hid (r1.trans HIT.out)
            have HB1 := Lib.hid r3
            have HO1 : Hid (w2.ownsRow (w.heap.size + 2) 21 1 v1 (ns ++ [45]).length (runeCells (ns ++ [45]))) := by show World.ownsRow _ _ _ _ _ _ _; simpa using hown1
            clear hown1 hgrow r1 r3 hown
            have hown1 := HO1.out
            go_wp2_with (at_builtin; refine wpList_append_own _ rfl _ _ 70 rfl (w.heap.size + 2) 21 i0 (.int .i32 0) 1 4 Tryd.underlying70 hi hz0 hz1 hz2 rfl (by decide) _ _ _ rfl (hown1.alloc _) ⟨w2.heap.size, 0, none⟩ 2 2 [.int .i32 c, .int .i32 46] rfl rfl (by exact new_cells _ #[.int .i32 c, .int .i32 46] _ _ (by simp)) (by intro u hu; simp at hu; first | (subst hu; rfl) | (rcases hu with rfl | rfl <;> rfl)) (by unfold maxLen; first | omega | (simp; omega)) (by first | omega | (simp; omega)) (by first | omega | (simp; omega)) ?_)
            intro v2 w3 hown2 hgrow _
            obtain ⟨r1, hown2z, r3⟩ := grown_rest (k := w.heap.size + 1) hown1 hgrow (by omega) (by omega)
            have HIT2 := Lib.hid (r1.trans HIT1.out)
            have HB2 := Lib.hid r3
            have HOX : Hid (w3.ownsRow (w.heap.size + 2) 21 1 v2 ((ns ++ [45]) ++ [c, 46]).length (runeCells ((ns ++ [45]) ++ [c, 46]))) := by show World.ownsRow _ _ _ _ _ _ _; simpa [runeCells] using hown2
            clear hown2 hgrow r1 r3 hown1
            go_wp2_with fail
            go_roundw
            case rel => exact ⟨pos + n, (ns ++ [45]) ++ [c, 46], false, true, by omega, by simp; omega, rfl, rfl, HIT2.out, HOX.out, hown2z, HK2.out.trans' ((HB1.out.trans HB2.out).mono (by omega)), by show _ = _; rw [HA.out, HST.out, runesL_two, runesL_snoc]; simp [lead, HNE.out, show encL 45 = [45] from rfl, show encL 46 = [46] from rfl]⟩
            case measure => rw [HIP.out, show w3.iterPos (w.heap.size + 1) = pos + n from by have := HIT2.out; simp [World.iterPos, this]]; omega

    · have nx := fun ty => run_next_k_end (P := Tryd.prog) wr (w.heap.size + 1) (bs g) pos ty hit hlt
      have cv := run_runes wr _ _ ns hown
      have HK := Lib.hid hk
      clear hk
      go_wp2_with fail
      go_ret
      exact ⟨ret_bs (by rw [HA.out, List.drop_of_length_le (by omega)]; simp [ini]), HK.out⟩
end Go.Proofs.YtflpkadknljpbaaDoor
