/- Rows of blocks that a law of Gloss makes: a first element; an append in a region that draws its order. Slices of bytes. Conditions: lengths. -/
import Derived.Test.YthbnahagfojfbaaG30
import Derived.Test.YthbnahagfojfbaaG01
import Derived.Test.YthbnahagfojfbaaRows
import Derived.Deep.RegionHeld3
import Derived.ProofKit
import Derived.OpenShut
import Derived.Carry
import Derived.ChangeSame
import Derived.Deep.DeepHandedRow

set_option linter.all false
namespace Go.Proofs.Ythbnahagfojfbaa
open Go.RowKit

/-- The slice v reads in w as slices of bytes. -/
def BytK (w : World) (cs : List Value) (x : Bs) : Prop := ∃ u, cs = [u] ∧ Byt w u x
def Bytss (w : World) (v : Value) (ls : List Bs) : Prop := RowR (fun _ => True) 1 (BytK w) w v ls
theorem Bytss.kept {w w' : World} {v : Value} {ls : List Bs} (h : Bytss w v ls) (k : Kept w w') : Bytss w' v ls :=
  RowR.step h (Sam.kept k) (fun _ _ _ => trivial) (fun cs x _ hx => by obtain ⟨u, rfl, hu⟩ := hx; exact ⟨u, rfl, hu.kept k⟩)
section
variable {α : Type} {R : (Nat → Prop) → World → List Value → α → Prop} {k : Nat} {A : Nat → Prop} {base : Nat} {e : TypeId} {w w' : World} {v : Value} {xs : List α}
theorem OutG.one_ {g : Nat} {cs : List Value} {x : α} (hb : Blk w g e cs.toArray) (hl : cs.length = k) (hg : base ≤ g) (hx : R (fun i => A i ∧ g ≠ i) w cs x) : OutG R k A base e w (.slice (some ⟨g, 0, none⟩) 1 1) [x] := by
  refine ⟨[cs], rfl, fun c hc => by rw [List.mem_singleton.1 hc]; exact hl, ⟨?_, .inr ⟨g, 1, cs.toArray, rfl, hg, hb, Nat.le_refl _, by unfold maxLen; omega, ?_, ?_⟩⟩, fun j c y hc hy => ?_⟩
  · rw [List.flatten_cons, List.flatten_nil, List.append_nil, hl, List.length_singleton, Nat.one_mul]
  · rw [List.size_toArray, hl, Nat.one_mul]
  · rw [List.flatten_cons, List.flatten_nil, List.append_nil, List.length_singleton, Nat.one_mul, ← hl, List.toList_toArray, List.take_length]
  · have e1 : (fun i => A i ∧ (Value.slice (some ⟨g, 0, none⟩) [x].length 1).ownBlock ≠ some i) = (fun i => A i ∧ g ≠ i) := by
      funext i; simp [Value.ownBlock]
    cases j with
    | zero => cases hc; cases hy; show R _ w cs x; exact (by rw [← e1] at hx; exact hx)
    | succ j => simp at hc
end
end Go.Proofs.Ythbnahagfojfbaa

/- The law GlossUnused answers true of every input. Conditions: lengths that a machine can tell. -/
set_option linter.all false
namespace Go.Proofs.Ythbnahagfojfbaa
open Go.RowKit Go.Sort

theorem nodup_snoc {l : List Bs} {x : Bs} (h : l.Nodup) (hx : x ∉ l) : (l ++ [x]).Nodup := by
  rw [List.nodup_append]
  exact ⟨h, by simp, fun a ha b hb => by rw [List.mem_singleton] at hb; subst hb; exact fun e => hx (e ▸ ha)⟩
def tsW (ns : List Bs) : List (Bs × Bs) := ns.map fun n => (n, n)
theorem fineU {t : Bs} {ns : List Bs} (ht : t.length ≤ 900) (hn : ns.Nodup) (hl : ns.length ≤ 19) (ha : ∀ n ∈ ns, n ≠ [] ∧ n.length ≤ 900) : FineD none (some (some t, tsW ns)) := by
  have e1 : (tsW ns).map (·.1) = ns := by unfold tsW; rw [List.map_map]; exact List.map_id ns
  have e2 : (tsW ns).map (·.2) = ns := by unfold tsW; rw [List.map_map]; exact List.map_id ns
  refine ⟨?_, ?_, ?_, ?_, ?_, ?_, ?_, ?_⟩
  · intro s hs; cases hs
  · exact List.nodup_nil
  · show 0 ≤ _; omega
  · intro p hp
    obtain ⟨n, h, rfl⟩ := List.mem_map.1 (show p ∈ tsW ns from hp)
    exact ⟨(ha n h).1, (ha n h).1, (ha n h).2, (ha n h).2⟩
  · show ((tsW ns).map (·.1)).Nodup; rw [e1]; exact hn
  · show ((tsW ns).map (·.2)).Nodup; rw [e2]; exact hn
  · show (tsW ns).length ≤ _; unfold tsW; rw [List.length_map]; exact hl
  · intro u hu; cases hu; exact ht
theorem resU {t : Bs} {ns : List Bs} {ks : List Bs} (hk : ∀ nm, nm ∈ ks ↔ (nm ∈ (tsG (some (some t, tsW ns))).map (·.1) ∧ nm ∈ nsU none)) (ids : Bs → Bs) (cf : Blo → Blo → Int) : resL ids cf none (keepG ks (some (some t, tsW ns))) = [bloG [bloP [textI t]]] := by
  have h1 : ks = [] := List.eq_nil_iff_forall_not_mem.2 fun a h => by have := ((hk a).1 h).2; cases this
  subst h1
  have h2 : keepG [] (some (some t, tsW ns)) = some (some t, []) := by
    show some (some t, (tsW ns).filter fun p => ([] : List Bs).contains p.1) = _
    have : (tsW ns).filter (fun p => ([] : List Bs).contains p.1) = [] := List.filter_eq_nil_iff.2 fun a _ => by simp
    rw [this]
  rw [h2]
  show [] ++ [bloG ([bloP [textI t]] ++ srtL cf [])] = _
  rw [srtL_nil]; rfl
/-- The glossary's blocks: something else, then definitions. -/
def kidsU (t : Bs) (ns : List Bs) : List Blo := bloP [textI t] :: ns.map fun n => bloT n n [bloP [textI t]]
theorem kidsU_snoc (t : Bs) (ns : List Bs) (n : Bs) : kidsU t (ns ++ [n]) = kidsU t ns ++ [bloT n n [bloP [textI t]]] := by unfold kidsU; rw [List.map_append]; rfl
theorem kidsU_len (t : Bs) (ns : List Bs) : (kidsU t ns).length = ns.length + 1 := by unfold kidsU; rw [List.length_cons, List.length_map]
theorem docU (t : Bs) (ns : List Bs) : docL none (some (some t, tsW ns)) = [bloG (kidsU t ns)] := by
  show [] ++ [glosL (some t) (tsW ns)] = _
  unfold glosL tsW kidsU
  rw [List.map_map]; rfl
/-- Other words, once each. -/
def wordsL (ls : List Bs) : List Bs := ls.map wordL
set_option maxRecDepth 100000 in
set_option maxHeartbeats 12800000 in
theorem lgunused_any (vL vS : Value) (ls : List Bs) (s : Bs) (w : World) (hv : Bytss w vL ls) (hs : Byt w vS s) (hll : ∀ l ∈ ls, l.length ≤ 140737488355328) (hsl : s.length ≤ 140737488355328) : Calls Try.prog 4 #[vL, vS] w fun e w' => e = .returned (.bool true) ∧ Kept w w' := by
  have HV := Lib.hid hv
  have HS := Lib.hid hs
  have HLL := Lib.hid hll
  obtain ⟨aL, cL, rfl, lL⟩ := (show RowR (fun _ => True) 1 (BytK w) w vL ls from hv).form
  obtain ⟨aS, cS, rfl, lS, -⟩ := hs
  clear hv hll
  by_cases h12 : 12 < ls.length
  · go_enter Try.func4, Try.ntmps4
    go_wp2_with fail
    refine (awake27_any w).mono ?_
    rintro e w1 ⟨rfl, hk⟩
    have HK := Lib.hid hk
    clear hk
    go_wp2_with fail
    go_ret
    exact ⟨rfl, HK.out⟩
  have HWS := Lib.hid (word_any (.slice aS s.length cS) s w HS.out hsl)
  obtain ⟨t, HT⟩ : ∃ t, Hid (wordL s = t) := ⟨_, rfl⟩
  have htl : t.length ≤ 900 := by rw [← HT.out]; have := wordL_len s; omega
  rw [HT.out] at HWS
  go_enter Try.func4, Try.ntmps4
  go_wp2_with fail
  refine HWS.out.mono ?_
  rintro e w1 ⟨rfl, k1⟩
  have HK1 := Lib.hid k1
  clear k1 HWS
  go_wp2_with fail
  have hl := Blk.new w1 41 #[.int .i64 1, .string (bs t), .string (bs []), .string (bs []), .string (bs []), .slice none 0 0, .slice none 0 0, .slice none 0 0, .slice none 0 0, .slice none 0 0]
  have hka := kept_alloc w1 (.cells #[.int .i64 1, .string (bs t), .string (bs []), .string (bs []), .string (bs []), .slice none 0 0, .slice none 0 0, .slice none 0 0, .slice none 0 0, .slice none 0 0] 41)
  obtain ⟨L, HL⟩ : ∃ L, Hid (w1.heap.size = L) := ⟨_, rfl⟩
  rw [HL.out] at hl ⊢
  generalize w1.alloc _ = w2 at *
  have hwL : w.heap.size ≤ L := by rw [← HL.out]; exact HK1.out.size
  have HLN : Hid (Lns (fun i => i = L) 1 w2 (.slice (some ⟨L, 0, none⟩) 1 1) [textI t]) := one_inl hl rfl rfl ⟨_, _, _, _, _, rfl, ⟨Strs.none_ _, InB.nil _ _⟩, ⟨Prs.none_ _, InB.nil _ _⟩, ⟨Strs.none_ _, InB.nil _ _⟩, RowR.none_ _ _ _ _, Lns.none_ _ _ _⟩
  have HK2 := Lib.hid (HK1.out.trans hka)
  have hL2 : L < w2.heap.size := hl.lt
  clear hl hka HK1
  refine (para_any (some ⟨L, 0, none⟩) 1 1 w2).mono ?_
  rintro e w3 ⟨rfl, k3⟩
  have HK3 := Lib.hid (HK2.out.trans k3)
  have HLN3 := Lib.hid (HLN.out.kept k3)
  have hL3 : L < w3.heap.size := Nat.lt_of_lt_of_le hL2 k3.size
  clear k3 HLN HK2 hL2
  have ho := Blk.new w3 37 #[.int .i64 1, .int .i64 0, .string (bs []), .string (bs []), .string (bs []), .string (bs []), .string (bs []), .slice none 0 0, .slice none 0 0, .slice (some ⟨L, 0, none⟩) 1 1, .slice none 0 0]
  have hka := kept_alloc w3 (.cells #[.int .i64 1, .int .i64 0, .string (bs []), .string (bs []), .string (bs []), .string (bs []), .string (bs []), .slice none 0 0, .slice none 0 0, .slice (some ⟨L, 0, none⟩) 1 1, .slice none 0 0] 37)
  have he : (w3.alloc (.cells #[.int .i64 1, .int .i64 0, .string (bs []), .string (bs []), .string (bs []), .string (bs []), .string (bs []), .slice none 0 0, .slice none 0 0, .slice (some ⟨L, 0, none⟩) 1 1, .slice none 0 0] 37)).heap.size = w3.heap.size + 1 := by simp
  obtain ⟨OB, HOB⟩ : ∃ L, Hid (w3.heap.size = L) := ⟨_, rfl⟩
  rw [HOB.out] at ho he
  have HO := Lib.hid ho
  have HKA := Lib.hid hka
  have HE := Lib.hid he
  have hLO : L < OB := by rw [← HOB.out]; exact hL3
  clear ho hka he
  go_wp2_with fail
  rw [HOB.out]
  generalize w3.alloc _ = w4 at *
  have hk := Blk.new w4 37 #[.int .i64 1, .int .i64 0, .string (bs []), .string (bs []), .string (bs []), .string (bs []), .string (bs []), .slice none 0 0, .slice none 0 0, .slice (some ⟨L, 0, none⟩) 1 1, .slice none 0 0]
  have hka := kept_alloc w4 (.cells #[.int .i64 1, .int .i64 0, .string (bs []), .string (bs []), .string (bs []), .string (bs []), .string (bs []), .slice none 0 0, .slice none 0 0, .slice (some ⟨L, 0, none⟩) 1 1, .slice none 0 0] 37)
  rw [HE.out] at hk
  generalize w4.alloc _ = w5 at *
  have HO5 := Lib.hid (HO.out.kept hka)
  have HLN5 := Lib.hid ((HLN3.out.kept HKA.out).kept hka)
  have HK5 := Lib.hid ((HK3.out.trans HKA.out).trans hka)
  have HPB : Hid (BloK 1 1 (fun i => i = L) w5 [.int .i64 1, .int .i64 0, .string (bs []), .string (bs []), .string (bs []), .string (bs []), .string (bs []), .slice none 0 0, .slice none 0 0, .slice (some ⟨L, 0, none⟩) 1 1, .slice none 0 0] (bloP [textI t])) := para_blo HLN5.out
  have HG5 : Hid (OutG (BloK 1 1) 11 (fun i => i ≠ OB ∧ w.heap.size ≤ i) (OB + 1) 37 w5 (.slice (some ⟨OB + 1, 0, none⟩) 1 1) (kidsU t [])) := OutG.one_ hk rfl (Nat.le_refl _) ((bloK 1 1).sam HPB.out (fun _ _ _ => rfl) (fun g _ q => ⟨⟨by omega, by omega⟩, by omega⟩))
  have hO5 : OB + 1 < w5.heap.size := hk.lt
  clear hk hka HO HLN3 HK3 HKA HPB
  have HTS := Lib.hid (fun k => (List.length_take (i := k) (l := wordsL ls)))
  have HWL : Hid ((wordsL ls).length = ls.length) := List.length_map _
  obtain ⟨ws, HWW⟩ : ∃ ws, Hid (wordsL ls = ws) := ⟨_, rfl⟩
  rw [HWW.out] at HTS HWL
  have HWA : Hid (∀ (k : Nat) (l : Bs), ls[k]? = some l → ws[k]? = some (wordL l)) := fun k l h => by rw [← HWW.out]; unfold wordsL; rw [List.getElem?_map, h]; rfl
  have HWN : Hid (∀ n ∈ ws, n ≠ [] ∧ n.length ≤ 900) := fun n hn => by
    rw [← HWW.out] at hn
    obtain ⟨l, _, rfl⟩ := List.mem_map.1 hn
    exact ⟨wordL_ne l, by have := wordL_len l; omega⟩
  obtain ⟨i0, hi, hz0, hz1, hz2⟩ := info_parts Try.infoBl
  go_loopw [6, 7] (fun vk i wr => ∃ (k : Nat) (vK : Value), k ≤ ls.length ∧ vK = vk ∧ i = .int .i64 k ∧ Hid (OutG (BloK 1 1) 11 (fun i => i ≠ OB ∧ w.heap.size ≤ i) (OB + 1) 37 wr vK (kidsU t (ws.take k))) ∧ Hid ((ws.take k).Nodup) ∧ Hid (Blk wr OB 37 #[.int .i64 1, .int .i64 0, .string (bs []), .string (bs []), .string (bs []), .string (bs []), .string (bs []), .slice none 0 0, .slice none 0 0, .slice (some ⟨L, 0, none⟩) 1 1, .slice none 0 0]) ∧ Hid (Lns (fun i => i = L) 1 wr (.slice (some ⟨L, 0, none⟩) 1 1) [textI t]) ∧ OB + 1 < wr.heap.size ∧ Hid (Kept w wr)) (fun _ i _ => ls.length - (intOf i).toNat)
  case atStart => exact ⟨0, _, Nat.zero_le _, rfl, rfl, HG5.out, List.nodup_nil, HO5.out, HLN5.out, hO5, HK5.out⟩
  case round =>
    clear HG5 HO5 HLN5 hO5 HK5
    obtain ⟨k, vK, hk, rfl, rfl, HGR, HND, HOR, HLR, hOz, HKR⟩ := hrel
    have hbr : w.heap.size ≤ wr.heap.size := HKR.out.size
    by_cases hlt : k < ls.length
    · obtain ⟨x, hx⟩ : ∃ x, ls[k]? = some x := ⟨_, List.getElem?_eq_getElem hlt⟩
      have HWX := Lib.hid (HWA.out k x hx)
      have hxl := HLL.out x (List.mem_of_getElem? hx)
      go_wp2_with fail
      obtain ⟨wo, hwo⟩ : ∃ wo : World, wo = wr := ⟨_, rfl⟩
      rw [← hwo] at HGR HOR HLR hOz HKR hbr
      rw [← hwo]
      go_loopw [8] (fun j wr => ∃ (m : Nat), m ≤ k ∧ j = .int .i64 m ∧ Hid (∀ y ∈ ws.take m, y ≠ wordL x) ∧ Hid (Kept wo wr)) (fun j _ => k - (intOf j).toNat)
      case atStart => exact ⟨0, Nat.zero_le _, rfl, (fun y h => by simp at h), Kept.refl _⟩
      case round =>
        clear hwo
        obtain ⟨m, hm, rfl, HNE, HKJ⟩ := hrel
        have HKW := Lib.hid (HKR.out.trans HKJ.out)
        have hvr := HV.out.kept HKW.out
        obtain ⟨g, o, csx, hax, hg, -, hcx, hcellx, ⟨ux, rfl, hux⟩, -, -⟩ := RowR.at_ (show RowR (fun _ => True) 1 (BytK wr) wr _ _ from hvr) k x hx
        subst hax
        have cx := hcellx 0 _ rfl
        rw [Nat.mul_one, Nat.add_zero] at cx
        obtain ⟨ax, cpx, rfl, -, -⟩ := id hux
        by_cases hjl : m < k
        · obtain ⟨y, hy⟩ : ∃ y, ls[m]? = some y := ⟨_, List.getElem?_eq_getElem (by omega)⟩
          have hyl := HLL.out y (List.mem_of_getElem? hy)
          have HWY := Lib.hid (HWA.out m y hy)
          obtain ⟨g', o', csy, hay, hg', -, hcy, hcelly, ⟨uy, rfl, huy⟩, -, -⟩ := RowR.at_ (show RowR (fun _ => True) 1 (BytK wr) wr _ _ from hvr) m y hy
          cases hay
          have cy := hcelly 0 _ rfl
          rw [Nat.mul_one, Nat.add_zero] at cy
          obtain ⟨ay, cpy, rfl, -, -⟩ := id huy
          have HUX := Lib.hid hux
          have HUY := Lib.hid huy
          have HWX1 := Lib.hid (fun w' (h : Kept wr w') => word_any (.slice ax x.length cpx) x w' (HUX.out.kept h) hxl)
          have HWY1 := Lib.hid (fun w' (h : Kept wr w') => word_any (.slice ay y.length cpy) y w' (HUY.out.kept h) hyl)
          have HCC : Hid (∀ w', Kept wr w' → (w'.cell? ⟨g, o + k, none⟩ = some (.slice ax x.length cpx) ∧ w'.cell? ⟨g, o + m, none⟩ = some (.slice ay y.length cpy)) ∧ g < w'.heap.size ∧ Kept wr w') := fun w' h => ⟨⟨(h.cell (p := ⟨g, o + k, none⟩) hg).trans cx, (h.cell (p := ⟨g, o + m, none⟩) hg).trans cy⟩, Nat.lt_of_lt_of_le hg h.size, h⟩
          have hkd : Kept wr wr.drew := kept_drewN wr 1
          have q1 : (0 : Int) ≤ (m : Int) := by omega
          have q2 : (m : Int) < (ls.length : Int) := by omega
          have q3 : (0 : Int) ≤ (k : Int) := by omega
          have q4 : (k : Int) < (ls.length : Int) := by omega
          obtain ⟨b, HBB⟩ : ∃ b, Hid ((wordL y == wordL x) = b) := ⟨_, Lib.hid rfl⟩
          have hbb : (bs (wordL y) == bs (wordL x)) = b := by rw [bs_beq]; exact HBB.out
          clear hvr hcellx hcelly hux huy hx hy hcx hcy
          obtain ⟨W1, HW1⟩ : ∃ z, Hid (wordL x = z) := ⟨_, rfl⟩
          obtain ⟨W2, HW2⟩ : ∃ z, Hid (wordL y = z) := ⟨_, rfl⟩
          rw [HW1.out] at HWX1 HBB hbb HNE HWX
          rw [HW2.out] at HWY1 HBB hbb HWY
          have hb2 : (W2 == W1) = b := HBB.out
          have hb3 : decide (W2 = W1) = b := by rw [← hb2, Bool.eq_iff_iff]; simp
          go_wp2_with fail
          go_region_held3 (fun w' => (w'.cell? ⟨g, o + k, none⟩ = some (.slice ax x.length cpx) ∧ w'.cell? ⟨g, o + m, none⟩ = some (.slice ay y.length cpy)) ∧ g < w'.heap.size ∧ Kept wr w')
            ((refine HCC.out _ ?_; assumption))
            (first
              | (go_at_call_of 8 ax; have := kA; refine (HWX1.out _ (by assumption)).mono ?_; rintro e w7 ⟨rfl, hk7⟩; have kB : Kept wr w7 := Kept.trans (by assumption) hk7; clear hk7)
              | (go_at_call_of 8 ay; refine (HWY1.out _ (by assumption)).mono ?_; rintro e w6 ⟨rfl, hk6⟩; have kA : Kept wr w6 := Kept.trans (by assumption) hk6; clear hk6))
          all_goals
            have HKB := Lib.hid kB
            clear HCC cx cy hkd kA kB
            cases b with
            | true =>
              go_wp2_with fail
              refine (awake27_any w7).mono ?_
              rintro e w8 ⟨rfl, hk8⟩
              have HKZ := Lib.hid ((HKW.out.trans HKB.out).trans hk8)
              clear hk8
              go_wp2_with fail
              go_ret
              exact ⟨rfl, HKZ.out⟩
            | false =>
              have HNE2 : Hid (∀ z ∈ ws.take (m + 1), z ≠ W1) := fun z hz => by
                rw [take_snoc HWY.out] at hz
                rcases List.mem_append.1 hz with q | q
                · exact HNE.out z q
                · rw [List.mem_singleton] at q
                  have := HBB.out
                  rw [beq_eq_false_iff_ne] at this
                  rw [q]; exact this
              have HKM := Lib.hid (HKJ.out.trans HKB.out)
              clear HNE HBB hbb hb2 hb3 HKJ HKW
              go_wp2_with fail
              go_roundw
              case rel => exact ⟨m + 1, by omega, by go_num, by rw [HW1.out]; exact HNE2.out, HKM.out⟩
              case measure => simp [intOf]; omega
        · obtain rfl : m = k := by omega
          have HND2 : Hid ((ws.take (m + 1)).Nodup) := by
            show (ws.take (m + 1)).Nodup
            rw [take_snoc HWX.out]
            exact nodup_snoc HND.out (fun q => HNE.out _ q rfl)
          have HKN : Hid (kidsU t (ws.take (m + 1)) = kidsU t (ws.take m) ++ [bloT (wordL x) (wordL x) [bloP [textI t]]]) := by
            show _ = _
            rw [take_snoc HWX.out, kidsU_snoc]
          have HZL : Hid ((kidsU t (ws.take m)).length ≤ 20) := by
            show _ ≤ 20
            rw [kidsU_len, HTS.out]; omega
          obtain ⟨zs, HZS⟩ : ∃ zs, Hid (kidsU t (ws.take m) = zs) := ⟨_, rfl⟩
          rw [HZS.out] at HGR HKN HZL
          have HGJ := Lib.hid (HGR.out.kept (bloK 1 1) HKJ.out)
          have HLJ := Lib.hid (HLR.out.kept HKJ.out)
          have HOJ := Lib.hid (HOR.out.kept HKJ.out)
          have hOw : OB + 1 < wr.heap.size := Nat.lt_of_lt_of_le hOz HKJ.out.size
          have hbj : w.heap.size ≤ wr.heap.size := HKW.out.size
          obtain ⟨g0, o0, csw, hax0, hg0, -, hcw, hcellw, ⟨uw, hcsw, huw⟩, -, -⟩ := RowR.at_ (show RowR (fun _ => True) 1 (BytK w) w _ _ from HV.out) m x hx
          cases hax0
          subst hcsw
          have cw := hcellw 0 _ rfl
          rw [Nat.mul_one, Nat.add_zero] at cw
          have hue : uw = .slice ax x.length cpx := by
            have h1 := (HKW.out.cell (p := ⟨g, o + m, none⟩) hg0).trans cw
            rw [cx] at h1
            exact (Option.some.inj h1).symm
          subst hue
          have HBW := Lib.hid huw
          have hbase : ∀ i, vK.ownBlock = some i → OB + 1 ≤ i ∧ i < wr.heap.size := fun i h => HGJ.out.blk i h
          have HTO : Hid (∀ w', Only (fun i => vK.ownBlock = some i) wr w' → Kept w w') := fun w' h => HKW.out.trans' (h.below hbj (fun i q => by have := (hbase i q).1; have := hwL; omega))
          have hg1 : g < w.heap.size := hg0
          have cz : ∀ w', Only (fun i => vK.ownBlock = some i) wr w' → w'.cell? ⟨g, o + m, none⟩ = some (.slice ax x.length cpx) := fun w' h => ((HTO.out w' h).cell (p := ⟨g, o + m, none⟩) hg1).trans cw
          have hOT : ¬ (vK.ownBlock = some OB) := fun q => by have := (hbase OB q).1; omega
          have hOl : OB < wr.heap.size := by omega
          have hOc : ∀ w', Only (fun i => vK.ownBlock = some i) wr w' → Blk w' OB 37 #[.int .i64 1, .int .i64 0, .string (bs []), .string (bs []), .string (bs []), .string (bs []), .string (bs []), .slice none 0 0, .slice none 0 0, .slice (some ⟨L, 0, none⟩) 1 1, .slice none 0 0] := fun w' h => HOJ.out.onl h hOT
          have HCC : Hid (∀ w', Only (fun i => vK.ownBlock = some i) wr w' → (w'.cell? ⟨g, o + m, none⟩ = some (.slice ax x.length cpx) ∧ (w'.cell? ⟨OB, 0, none⟩ = some (.int .i64 1) ∧ w'.cell? ⟨OB, 1, none⟩ = some (.int .i64 0) ∧ w'.cell? ⟨OB, 2, none⟩ = some (.string (bs [])) ∧ w'.cell? ⟨OB, 3, none⟩ = some (.string (bs [])) ∧ w'.cell? ⟨OB, 4, none⟩ = some (.string (bs [])) ∧ w'.cell? ⟨OB, 5, none⟩ = some (.string (bs [])) ∧ w'.cell? ⟨OB, 6, none⟩ = some (.string (bs [])) ∧ w'.cell? ⟨OB, 7, none⟩ = some (.slice none 0 0) ∧ w'.cell? ⟨OB, 8, none⟩ = some (.slice none 0 0) ∧ w'.cell? ⟨OB, 9, none⟩ = some (.slice (some ⟨L, 0, none⟩) 1 1) ∧ w'.cell? ⟨OB, 10, none⟩ = some (.slice none 0 0))) ∧ (g < w'.heap.size ∧ OB < w'.heap.size) ∧ Only (fun i => vK.ownBlock = some i) wr w') := fun w' h => ⟨⟨cz w' h, ⟨(hOc w' h).cell 0 _ rfl, (hOc w' h).cell 1 _ rfl, (hOc w' h).cell 2 _ rfl, (hOc w' h).cell 3 _ rfl, (hOc w' h).cell 4 _ rfl, (hOc w' h).cell 5 _ rfl, (hOc w' h).cell 6 _ rfl, (hOc w' h).cell 7 _ rfl, (hOc w' h).cell 8 _ rfl, (hOc w' h).cell 9 _ rfl, (hOc w' h).cell 10 _ rfl⟩⟩, ⟨Nat.lt_of_lt_of_le hg1 (HTO.out w' h).size, Nat.lt_of_lt_of_le hOl h.size⟩, h⟩
          have HW := Lib.hid (fun w' (h : Kept wr w') => word_any (.slice ax x.length cpx) x w' (HBW.out.kept (HKW.out.trans h)) hxl)
          have HBS : Hid (∀ i, vK.ownBlock = some i → OB + 1 ≤ i ∧ i < wr.heap.size) := hbase
          have kd : Kept wr wr.drew := kept_drewN wr 1
          have od : Only (fun i => vK.ownBlock = some i) wr wr.drew := Only.of_kept kd
          have q3 : (0 : Int) ≤ (m : Int) := by omega
          have q4 : (m : Int) < (ls.length : Int) := by omega
          obtain ⟨nm, HNM⟩ : ∃ z, Hid (wordL x = z) := ⟨_, rfl⟩
          rw [HNM.out] at HW HKN
          clear hux huw hvr hcellx hcellw cw cx hcx hcw HNE HND HGR HLR HOR hOz HWX hbr hx cz hOc hbase
          obtain ⟨aV, cV, hV, hcV, hmV⟩ := (show OutG _ _ _ _ _ _ _ _ from HGJ.out).form
          subst hV
          go_wp2_with fail
          go_region_held3 (fun w' => (w'.cell? ⟨g, o + m, none⟩ = some (.slice ax x.length cpx) ∧ (w'.cell? ⟨OB, 0, none⟩ = some (.int .i64 1) ∧ w'.cell? ⟨OB, 1, none⟩ = some (.int .i64 0) ∧ w'.cell? ⟨OB, 2, none⟩ = some (.string (bs [])) ∧ w'.cell? ⟨OB, 3, none⟩ = some (.string (bs [])) ∧ w'.cell? ⟨OB, 4, none⟩ = some (.string (bs [])) ∧ w'.cell? ⟨OB, 5, none⟩ = some (.string (bs [])) ∧ w'.cell? ⟨OB, 6, none⟩ = some (.string (bs [])) ∧ w'.cell? ⟨OB, 7, none⟩ = some (.slice none 0 0) ∧ w'.cell? ⟨OB, 8, none⟩ = some (.slice none 0 0) ∧ w'.cell? ⟨OB, 9, none⟩ = some (.slice (some ⟨L, 0, none⟩) 1 1) ∧ w'.cell? ⟨OB, 10, none⟩ = some (.slice none 0 0))) ∧ (g < w'.heap.size ∧ OB < w'.heap.size) ∧ Only (fun i => (Value.slice aV zs.length cV).ownBlock = some i) wr w')
            ((refine HCC.out _ ?_; first | assumption | exact Only.trans (by assumption) (Only.of_kept (kept_alloc _ _))))
            (first
              | (refine step_append_out (bloK 1 1) rfl (.tmp 45) (.tmp 59) 29 rfl i0 _ 192 Try.underlying29 hi hz0 hz1 hz2 rfl (by omega) (by simp [Act.eval, Act.put]) HGN.out _ _ _ (by simp [Act.eval, Act.put]) (fun j u hu => HNB.out.cell j u (by rw [← Array.getElem?_toList]; exact hu)) rfl HYN.out (by have := HZL.out; unfold maxLen; omega) (by have := HZL.out; omega) hbzN _ rfl ?_; intro g7 c7' w7 hout7 hgrow7 hat7 hlt7; have HR7 := Lib.hid hout7; have oZ : Only (fun i => (Value.slice aV zs.length cV).ownBlock = some i) wr w7 := oN.trans ((Only.grown hgrow7).mono (fun _ _ h => h.symm)); clear hout7 hgrow7 hat7)
              | (go_at_call 9; refine (term_any nm nm _ 1 1 _).mono ?_; rintro e w9 ⟨P, rfl, hP, bP, k9⟩; have hzb : Blk w9 (w4.heap.size) 37 #[.int .i64 1, .int .i64 0, .string (bs []), .string (bs []), .string (bs []), .string (bs []), .string (bs []), .slice none 0 0, .slice none 0 0, .slice (some ⟨L, 0, none⟩) 1 1, .slice none 0 0] := (Blk.new w4 37 #[.int .i64 1, .int .i64 0, .string (bs []), .string (bs []), .string (bs []), .string (bs []), .string (bs []), .slice none 0 0, .slice none 0 0, .slice (some ⟨L, 0, none⟩) 1 1, .slice none 0 0]).kept k9; have k4z : Kept wr w9 := Kept.trans (by first | assumption | exact Kept.trans (by assumption) (kept_alloc _ _)) k9; have hPz : wr.heap.size ≤ P := Nat.le_trans (by first | exact kB.size | exact (Kept.trans kB (kept_alloc _ _)).size) hP; have kN : Kept wr (w9.alloc (.cells #[.int .i64 13, .int .i64 0, .string (bs kTerm), .string (bs []), .string (bs []), .string (bs []), .string (bs nm), .slice none 0 0, .slice (some ⟨P, 0, none⟩) 1 1, .slice none 0 0, .slice (some ⟨w4.heap.size, 0, none⟩) 1 1] 37)) := k4z.trans (kept_alloc _ _); have oN : Only (fun i => (Value.slice aV zs.length cV).ownBlock = some i) wr (w9.alloc (.cells #[.int .i64 13, .int .i64 0, .string (bs kTerm), .string (bs []), .string (bs []), .string (bs []), .string (bs nm), .slice none 0 0, .slice (some ⟨P, 0, none⟩) 1 1, .slice none 0 0, .slice (some ⟨w4.heap.size, 0, none⟩) 1 1] 37)) := Only.of_kept kN; have o9 : Only (fun i => (Value.slice aV zs.length cV).ownBlock = some i) wr w9 := Only.of_kept k4z; have HNB := Lib.hid (Blk.new w9 37 #[.int .i64 13, .int .i64 0, .string (bs kTerm), .string (bs []), .string (bs []), .string (bs []), .string (bs nm), .slice none 0 0, .slice (some ⟨P, 0, none⟩) 1 1, .slice none 0 0, .slice (some ⟨w4.heap.size, 0, none⟩) 1 1]); have HGN := Lib.hid (HGJ.out.kept (bloK 1 1) kN); have hbzN : OB + 1 ≤ (w9.alloc (.cells #[.int .i64 13, .int .i64 0, .string (bs kTerm), .string (bs []), .string (bs []), .string (bs []), .string (bs nm), .slice none 0 0, .slice (some ⟨P, 0, none⟩) 1 1, .slice none 0 0, .slice (some ⟨w4.heap.size, 0, none⟩) 1 1] 37)).heap.size := Nat.le_trans (Nat.le_of_lt hOw) kN.size; have hown : ∀ i, wr.heap.size ≤ i → (i ≠ OB ∧ w.heap.size ≤ i) ∧ (Value.slice aV zs.length cV).ownBlock ≠ some i := fun i h => ⟨⟨by omega, by omega⟩, fun q => by have := (HBS.out i q).2; omega⟩; have hLS : (L ≠ OB ∧ w.heap.size ≤ L) ∧ (Value.slice aV zs.length cV).ownBlock ≠ some L := ⟨⟨by omega, hwL⟩, fun q => by have := (HBS.out L q).1; omega⟩; have HYN : Hid (BloK 1 1 (fun i => (i ≠ OB ∧ w.heap.size ≤ i) ∧ (Value.slice aV zs.length cV).ownBlock ≠ some i) (w9.alloc (.cells #[.int .i64 13, .int .i64 0, .string (bs kTerm), .string (bs []), .string (bs []), .string (bs []), .string (bs nm), .slice none 0 0, .slice (some ⟨P, 0, none⟩) 1 1, .slice none 0 0, .slice (some ⟨w4.heap.size, 0, none⟩) 1 1] 37)) [.int .i64 13, .int .i64 0, .string (bs kTerm), .string (bs []), .string (bs []), .string (bs []), .string (bs nm), .slice none 0 0, .slice (some ⟨P, 0, none⟩) 1 1, .slice none 0 0, .slice (some ⟨w4.heap.size, 0, none⟩) 1 1] (bloT nm nm [bloP [textI t]])) := term_blo (hown P hPz) (bP.kept (kept_alloc _ _)) (row_blo (css := [[.int .i64 1, .int .i64 0, .string (bs []), .string (bs []), .string (bs []), .string (bs []), .string (bs []), .slice none 0 0, .slice none 0 0, .slice (some ⟨L, 0, none⟩) 1 1, .slice none 0 0]]) (xs := [bloP [textI t]]) (hzb.kept (kept_alloc _ _)) rfl (by intro cs h; rw [List.mem_singleton] at h; rw [h]; rfl) (fun j cs x h1 h2 => by cases j with | zero => (cases h1; cases h2; exact para_blo ((HLJ.out.kept kN).sam (fun _ _ _ => rfl) (fun g _ q => by rw [q]; exact hLS))) | succ j => simp at h1) (hown _ (by have := kB.size; omega)) (Nat.le_refl _)); clear hzb hP bP k9)
              | (go_at_call 9; refine (term_any nm nm _ 1 1 _).mono ?_; rintro e w9 ⟨P, rfl, hP, bP, k9⟩; have hzb : Blk w9 (w3.heap.size) 37 #[.int .i64 1, .int .i64 0, .string (bs []), .string (bs []), .string (bs []), .string (bs []), .string (bs []), .slice none 0 0, .slice none 0 0, .slice (some ⟨L, 0, none⟩) 1 1, .slice none 0 0] := ((Blk.new w3 37 #[.int .i64 1, .int .i64 0, .string (bs []), .string (bs []), .string (bs []), .string (bs []), .string (bs []), .slice none 0 0, .slice none 0 0, .slice (some ⟨L, 0, none⟩) 1 1, .slice none 0 0]).kept hk4).kept k9; have k4z : Kept wr w9 := Kept.trans (by first | assumption | exact Kept.trans (by assumption) (kept_alloc _ _)) k9; have hPz : wr.heap.size ≤ P := Nat.le_trans (by first | exact kB.size | exact (Kept.trans kB (kept_alloc _ _)).size) hP; have kN : Kept wr (w9.alloc (.cells #[.int .i64 13, .int .i64 0, .string (bs kTerm), .string (bs []), .string (bs []), .string (bs []), .string (bs nm), .slice none 0 0, .slice (some ⟨P, 0, none⟩) 1 1, .slice none 0 0, .slice (some ⟨w3.heap.size, 0, none⟩) 1 1] 37)) := k4z.trans (kept_alloc _ _); have oN : Only (fun i => (Value.slice aV zs.length cV).ownBlock = some i) wr (w9.alloc (.cells #[.int .i64 13, .int .i64 0, .string (bs kTerm), .string (bs []), .string (bs []), .string (bs []), .string (bs nm), .slice none 0 0, .slice (some ⟨P, 0, none⟩) 1 1, .slice none 0 0, .slice (some ⟨w3.heap.size, 0, none⟩) 1 1] 37)) := Only.of_kept kN; have o9 : Only (fun i => (Value.slice aV zs.length cV).ownBlock = some i) wr w9 := Only.of_kept k4z; have HNB := Lib.hid (Blk.new w9 37 #[.int .i64 13, .int .i64 0, .string (bs kTerm), .string (bs []), .string (bs []), .string (bs []), .string (bs nm), .slice none 0 0, .slice (some ⟨P, 0, none⟩) 1 1, .slice none 0 0, .slice (some ⟨w3.heap.size, 0, none⟩) 1 1]); have HGN := Lib.hid (HGJ.out.kept (bloK 1 1) kN); have hbzN : OB + 1 ≤ (w9.alloc (.cells #[.int .i64 13, .int .i64 0, .string (bs kTerm), .string (bs []), .string (bs []), .string (bs []), .string (bs nm), .slice none 0 0, .slice (some ⟨P, 0, none⟩) 1 1, .slice none 0 0, .slice (some ⟨w3.heap.size, 0, none⟩) 1 1] 37)).heap.size := Nat.le_trans (Nat.le_of_lt hOw) kN.size; have hown : ∀ i, wr.heap.size ≤ i → (i ≠ OB ∧ w.heap.size ≤ i) ∧ (Value.slice aV zs.length cV).ownBlock ≠ some i := fun i h => ⟨⟨by omega, by omega⟩, fun q => by have := (HBS.out i q).2; omega⟩; have hLS : (L ≠ OB ∧ w.heap.size ≤ L) ∧ (Value.slice aV zs.length cV).ownBlock ≠ some L := ⟨⟨by omega, hwL⟩, fun q => by have := (HBS.out L q).1; omega⟩; have HYN : Hid (BloK 1 1 (fun i => (i ≠ OB ∧ w.heap.size ≤ i) ∧ (Value.slice aV zs.length cV).ownBlock ≠ some i) (w9.alloc (.cells #[.int .i64 13, .int .i64 0, .string (bs kTerm), .string (bs []), .string (bs []), .string (bs []), .string (bs nm), .slice none 0 0, .slice (some ⟨P, 0, none⟩) 1 1, .slice none 0 0, .slice (some ⟨w3.heap.size, 0, none⟩) 1 1] 37)) [.int .i64 13, .int .i64 0, .string (bs kTerm), .string (bs []), .string (bs []), .string (bs []), .string (bs nm), .slice none 0 0, .slice (some ⟨P, 0, none⟩) 1 1, .slice none 0 0, .slice (some ⟨w3.heap.size, 0, none⟩) 1 1] (bloT nm nm [bloP [textI t]])) := term_blo (hown P hPz) (bP.kept (kept_alloc _ _)) (row_blo (css := [[.int .i64 1, .int .i64 0, .string (bs []), .string (bs []), .string (bs []), .string (bs []), .string (bs []), .slice none 0 0, .slice none 0 0, .slice (some ⟨L, 0, none⟩) 1 1, .slice none 0 0]]) (xs := [bloP [textI t]]) (hzb.kept (kept_alloc _ _)) rfl (by intro cs h; rw [List.mem_singleton] at h; rw [h]; rfl) (fun j cs x h1 h2 => by cases j with | zero => (cases h1; cases h2; exact para_blo ((HLJ.out.kept kN).sam (fun _ _ _ => rfl) (fun g _ q => by rw [q]; exact hLS))) | succ j => simp at h1) (hown _ (by have := kA.size; omega)) (Nat.le_refl _)); clear hzb hP bP k9)
              | (go_at_call 9; refine (term_any nm nm _ 1 1 _).mono ?_; rintro e w9 ⟨P, rfl, hP, bP, k9⟩; have hzb : Blk w9 (wr.heap.size) 37 #[.int .i64 1, .int .i64 0, .string (bs []), .string (bs []), .string (bs []), .string (bs []), .string (bs []), .slice none 0 0, .slice none 0 0, .slice (some ⟨L, 0, none⟩) 1 1, .slice none 0 0] := (((Blk.new wr.drew 37 #[.int .i64 1, .int .i64 0, .string (bs []), .string (bs []), .string (bs []), .string (bs []), .string (bs []), .slice none 0 0, .slice none 0 0, .slice (some ⟨L, 0, none⟩) 1 1, .slice none 0 0]).kept hk3).kept hk4).kept k9; have k4z : Kept wr w9 := Kept.trans (by first | assumption | exact Kept.trans (by assumption) (kept_alloc _ _)) k9; have hPz : wr.heap.size ≤ P := Nat.le_trans (by first | exact kB.size | exact (Kept.trans kB (kept_alloc _ _)).size) hP; have kN : Kept wr (w9.alloc (.cells #[.int .i64 13, .int .i64 0, .string (bs kTerm), .string (bs []), .string (bs []), .string (bs []), .string (bs nm), .slice none 0 0, .slice (some ⟨P, 0, none⟩) 1 1, .slice none 0 0, .slice (some ⟨wr.heap.size, 0, none⟩) 1 1] 37)) := k4z.trans (kept_alloc _ _); have oN : Only (fun i => (Value.slice aV zs.length cV).ownBlock = some i) wr (w9.alloc (.cells #[.int .i64 13, .int .i64 0, .string (bs kTerm), .string (bs []), .string (bs []), .string (bs []), .string (bs nm), .slice none 0 0, .slice (some ⟨P, 0, none⟩) 1 1, .slice none 0 0, .slice (some ⟨wr.heap.size, 0, none⟩) 1 1] 37)) := Only.of_kept kN; have o9 : Only (fun i => (Value.slice aV zs.length cV).ownBlock = some i) wr w9 := Only.of_kept k4z; have HNB := Lib.hid (Blk.new w9 37 #[.int .i64 13, .int .i64 0, .string (bs kTerm), .string (bs []), .string (bs []), .string (bs []), .string (bs nm), .slice none 0 0, .slice (some ⟨P, 0, none⟩) 1 1, .slice none 0 0, .slice (some ⟨wr.heap.size, 0, none⟩) 1 1]); have HGN := Lib.hid (HGJ.out.kept (bloK 1 1) kN); have hbzN : OB + 1 ≤ (w9.alloc (.cells #[.int .i64 13, .int .i64 0, .string (bs kTerm), .string (bs []), .string (bs []), .string (bs []), .string (bs nm), .slice none 0 0, .slice (some ⟨P, 0, none⟩) 1 1, .slice none 0 0, .slice (some ⟨wr.heap.size, 0, none⟩) 1 1] 37)).heap.size := Nat.le_trans (Nat.le_of_lt hOw) kN.size; have hown : ∀ i, wr.heap.size ≤ i → (i ≠ OB ∧ w.heap.size ≤ i) ∧ (Value.slice aV zs.length cV).ownBlock ≠ some i := fun i h => ⟨⟨by omega, by omega⟩, fun q => by have := (HBS.out i q).2; omega⟩; have hLS : (L ≠ OB ∧ w.heap.size ≤ L) ∧ (Value.slice aV zs.length cV).ownBlock ≠ some L := ⟨⟨by omega, hwL⟩, fun q => by have := (HBS.out L q).1; omega⟩; have HYN : Hid (BloK 1 1 (fun i => (i ≠ OB ∧ w.heap.size ≤ i) ∧ (Value.slice aV zs.length cV).ownBlock ≠ some i) (w9.alloc (.cells #[.int .i64 13, .int .i64 0, .string (bs kTerm), .string (bs []), .string (bs []), .string (bs []), .string (bs nm), .slice none 0 0, .slice (some ⟨P, 0, none⟩) 1 1, .slice none 0 0, .slice (some ⟨wr.heap.size, 0, none⟩) 1 1] 37)) [.int .i64 13, .int .i64 0, .string (bs kTerm), .string (bs []), .string (bs []), .string (bs []), .string (bs nm), .slice none 0 0, .slice (some ⟨P, 0, none⟩) 1 1, .slice none 0 0, .slice (some ⟨wr.heap.size, 0, none⟩) 1 1] (bloT nm nm [bloP [textI t]])) := term_blo (hown P hPz) (bP.kept (kept_alloc _ _)) (row_blo (css := [[.int .i64 1, .int .i64 0, .string (bs []), .string (bs []), .string (bs []), .string (bs []), .string (bs []), .slice none 0 0, .slice none 0 0, .slice (some ⟨L, 0, none⟩) 1 1, .slice none 0 0]]) (xs := [bloP [textI t]]) (hzb.kept (kept_alloc _ _)) rfl (by intro cs h; rw [List.mem_singleton] at h; rw [h]; rfl) (fun j cs x h1 h2 => by cases j with | zero => (cases h1; cases h2; exact para_blo ((HLJ.out.kept kN).sam (fun _ _ _ => rfl) (fun g _ q => by rw [q]; exact hLS))) | succ j => simp at h1) (hown _ (by have := Nat.le_refl wr.heap.size; omega)) (Nat.le_refl _)); clear hzb hP bP k9)
              | (go_at_call 8; have := kA; refine (HW.out _ (by first | assumption | exact Kept.trans (by assumption) (kept_alloc _ _))).mono ?_; rintro e w4 ⟨rfl, hk4⟩; have kB : Kept wr w4 := Kept.trans (by first | assumption | exact Kept.trans (by assumption) (kept_alloc _ _)) hk4; have oB : Only (fun i => (Value.slice aV zs.length cV).ownBlock = some i) wr w4 := Only.of_kept kB)
              | (go_at_call 8; refine (HW.out _ (by first | assumption | exact Kept.trans (by assumption) (kept_alloc _ _))).mono ?_; rintro e w3 ⟨rfl, hk3⟩; have kA : Kept wr w3 := Kept.trans (by first | assumption | exact Kept.trans (by assumption) (kept_alloc _ _)) hk3; have oA : Only (fun i => (Value.slice aV zs.length cV).ownBlock = some i) wr w3 := Only.of_kept kA))
          all_goals
            have hLT : ¬ ((Value.slice aV zs.length cV).ownBlock = some L) := fun q => by have := (HBS.out L q).1; omega
            have HKZ := Lib.hid (HTO.out w7 oZ)
            have HOZ := Lib.hid (HOJ.out.onl oZ hOT)
            have HLZ : Hid (Lns (fun i => i = L) 1 w7 (.slice (some ⟨L, 0, none⟩) 1 1) [textI t]) := HLJ.out.sam (Sam.only oZ (fun i _ hs q => hLT (by rw [← hs]; exact q))) (fun _ _ q => q)
            have HSZ := Lib.hid (Nat.lt_of_lt_of_le hOw oZ.size)
            have HR9 : Hid (OutG (BloK 1 1) 11 (fun i => i ≠ OB ∧ w.heap.size ≤ i) (OB + 1) 37 w7 (.slice (some ⟨g7, 0, none⟩) (zs.length + 1) c7') (kidsU t (ws.take (m + 1)))) := by rw [HKN.out]; exact HR7.out
            clear HNB HGN HYN hown hLS hbzN oN o9 kN k4z hPz oZ kB oB kA oA hk3 hk4 HCC HR7 HTO HBS HOJ HLJ HGJ HKJ HKW HKR HKN kd od
            go_wp2_with fail
            go_roundw
            case rel => exact ⟨m + 1, _, by omega, rfl, by go_num, HR9.out, HND2.out, HOZ.out, HLZ.out, HSZ.out, HKZ.out⟩
            case measure => simp [intOf]; omega
    · obtain rfl : k = ls.length := by omega
      have htk : ws.take ls.length = ws := List.take_of_length_le (by rw [HWL.out]; exact Nat.le_refl _)
      rw [htk] at HGR HND
      have hBK : Bls (fun _ => True) 1 2 wr vK (kidsU t ws) := OutG.row (S := fun _ => True) (bloK 1 1) HGR.out (fun _ _ _ => trivial) (fun _ _ => trivial)
      have HBK := Lib.hid hBK
      obtain ⟨aV, cV, rfl, hcV⟩ := hBK.form
      have hws : ws.length ≤ 12 := by rw [HWL.out]; omega
      clear HGR hBK htk
      go_wp2_with fail
      refine (glossary_any aV (kidsU t ws).length cV wr).mono ?_
      rintro e w1 ⟨rfl, k1⟩
      have hg := Blk.new w1 37 #[.int .i64 13, .int .i64 0, .string (bs kGlos), .string (bs []), .string (bs []), .string (bs []), .string (bs []), .slice none 0 0, .slice none 0 0, .slice none 0 0, .slice aV (kidsU t ws).length cV]
      have hka := kept_alloc w1 (.cells #[.int .i64 13, .int .i64 0, .string (bs kGlos), .string (bs []), .string (bs []), .string (bs []), .string (bs []), .slice none 0 0, .slice none 0 0, .slice none 0 0, .slice aV (kidsU t ws).length cV] 37)
      have HD : Hid (Bls (fun _ => True) 1 3 (w1.alloc (.cells #[.int .i64 13, .int .i64 0, .string (bs kGlos), .string (bs []), .string (bs []), .string (bs []), .string (bs []), .slice none 0 0, .slice none 0 0, .slice none 0 0, .slice aV (kidsU t ws).length cV] 37)) (.slice (some ⟨w1.heap.size, 0, none⟩) 1 1) (docL none (some (some t, tsW ws)))) := by
        rw [docU]
        exact row_blo (css := [[.int .i64 13, .int .i64 0, .string (bs kGlos), .string (bs []), .string (bs []), .string (bs []), .string (bs []), .slice none 0 0, .slice none 0 0, .slice none 0 0, .slice aV (kidsU t ws).length cV]]) (xs := [bloG (kidsU t ws)]) hg rfl (by intro cs h; rw [List.mem_singleton] at h; rw [h]; rfl) (fun j cs x h1 h2 => by
          cases j with
          | zero => cases h1; cases h2; exact glos_blo ((HBK.out.kept k1).kept hka)
          | succ j => simp at h1) trivial (Nat.le_refl _)
      have HKG := Lib.hid (HKR.out.trans (k1.trans hka))
      have HOG := Lib.hid ((HOR.out.kept k1).kept hka)
      have HLG := Lib.hid ((HLR.out.kept k1).kept hka)
      clear hg hka k1 HBK HKR HOR HLR
      go_wp2_with fail
      generalize w1.alloc _ = w2 at *
      refine (fill_doc (fineU htl HND.out (by omega) HWN.out) (fun s hs => by cases hs) 1 2 _ _ _ zeroC w2 (HD.out.mono (fun g h _ => h)) ⟨Prs.none_ _, Strs.none_ _⟩ SmallC.zero).mono ?_
      rintro e w3 ⟨vM, vB, ks, rfl, hks, hM, hB, k3⟩
      rw [resU hks] at hB
      have HB := Lib.hid hB
      obtain ⟨aM, cM, hvM, lM⟩ := hM.shape
      obtain rfl : vM = .slice aM 0 cM := hvM
      obtain ⟨aB, cB, hvB, lB⟩ := hB.form
      obtain rfl : vB = .slice aB 1 cB := hvB
      have hx := Blk.new w3 45 #[.slice aM 0 cM, .slice aB 1 cB]
      have hka := kept_alloc w3 (.cells #[.slice aM 0 cM, .slice aB 1 cB] 45)
      have HXX := Lib.hid hx
      have HKA := Lib.hid hka
      have HK3 := Lib.hid (HKG.out.trans (k3.trans hka))
      have HOZ := Lib.hid ((HOG.out.kept k3).kept hka)
      have HLZ := Lib.hid ((HLG.out.kept k3).kept hka)
      clear hks hM hx hka k3 HKG HOG HLG HD hB
      obtain ⟨X, HX⟩ : ∃ x, Hid (w3.heap.size = x) := ⟨_, rfl⟩
      rw [HX.out] at HXX
      go_wp2_with fail
      rw [HX.out]
      generalize w3.alloc _ = w4 at *
      have hB4 : Bls (fun _ => True) 4 3 w4 (.slice aB 1 cB) [bloG [bloP [textI t]]] := (HB.out.kept HKA.out).mono (fun _ _ _ => trivial)
      obtain ⟨gB, oB, vC, vP, vL, vK, rfl, hgB, _, -, -, ⟨_, _, _, _, _, _, _, _, _, _, b10⟩, -, _, _, _, hKK⟩ := Bls.at_ hB4 0 _ rfl
      have HKK := Lib.hid hKK
      obtain ⟨aK, cK, hvK, _⟩ := hKK.form
      obtain rfl : vK = .slice aK 1 cK := hvK
      rw [Nat.zero_mul, Nat.add_zero] at b10
      have x1 : w4.cell? ⟨X, 1, none⟩ = some (.slice (some ⟨gB, oB, none⟩) 1 cB) := HXX.out.cell 1 _ rfl
      have zX : X < w4.heap.size := HXX.out.lt
      have zO : OB < w4.heap.size := HOZ.out.lt
      have oi0 : w4.cell? ⟨OB, 0, none⟩ = some (.int .i64 1) := HOZ.out.cell 0 _ rfl
      have oi1 : w4.cell? ⟨OB, 1, none⟩ = some (.int .i64 0) := HOZ.out.cell 1 _ rfl
      have oi2 : w4.cell? ⟨OB, 2, none⟩ = some (.string (bs [])) := HOZ.out.cell 2 _ rfl
      have oi3 : w4.cell? ⟨OB, 3, none⟩ = some (.string (bs [])) := HOZ.out.cell 3 _ rfl
      have oi4 : w4.cell? ⟨OB, 4, none⟩ = some (.string (bs [])) := HOZ.out.cell 4 _ rfl
      have oi5 : w4.cell? ⟨OB, 5, none⟩ = some (.string (bs [])) := HOZ.out.cell 5 _ rfl
      have oi6 : w4.cell? ⟨OB, 6, none⟩ = some (.string (bs [])) := HOZ.out.cell 6 _ rfl
      have oi7 : w4.cell? ⟨OB, 7, none⟩ = some (.slice none 0 0) := HOZ.out.cell 7 _ rfl
      have oi8 : w4.cell? ⟨OB, 8, none⟩ = some (.slice none 0 0) := HOZ.out.cell 8 _ rfl
      have oi9 : w4.cell? ⟨OB, 9, none⟩ = some (.slice (some ⟨L, 0, none⟩) 1 1) := HOZ.out.cell 9 _ rfl
      have oi10 : w4.cell? ⟨OB, 10, none⟩ = some (.slice none 0 0) := HOZ.out.cell 10 _ rfl
      have HCC : Hid (∀ w', Kept w4 w' → ((w'.cell? ⟨X, 1, none⟩ = some (.slice (some ⟨gB, oB, none⟩) 1 cB) ∧ w'.cell? ⟨gB, oB + 10, none⟩ = some (.slice aK 1 cK)) ∧ (w'.cell? ⟨OB, 0, none⟩ = some (.int .i64 1) ∧ w'.cell? ⟨OB, 1, none⟩ = some (.int .i64 0) ∧ w'.cell? ⟨OB, 2, none⟩ = some (.string (bs [])) ∧ w'.cell? ⟨OB, 3, none⟩ = some (.string (bs [])) ∧ w'.cell? ⟨OB, 4, none⟩ = some (.string (bs [])) ∧ w'.cell? ⟨OB, 5, none⟩ = some (.string (bs [])) ∧ w'.cell? ⟨OB, 6, none⟩ = some (.string (bs [])) ∧ w'.cell? ⟨OB, 7, none⟩ = some (.slice none 0 0) ∧ w'.cell? ⟨OB, 8, none⟩ = some (.slice none 0 0) ∧ w'.cell? ⟨OB, 9, none⟩ = some (.slice (some ⟨L, 0, none⟩) 1 1) ∧ w'.cell? ⟨OB, 10, none⟩ = some (.slice none 0 0))) ∧ (X < w'.heap.size ∧ gB < w'.heap.size ∧ OB < w'.heap.size) ∧ Kept w4 w') := fun w' h => ⟨⟨⟨(h.cell (p := ⟨X, 1, none⟩) zX).trans x1, (h.cell (p := ⟨gB, oB + 10, none⟩) hgB).trans b10⟩, ⟨(h.cell (p := ⟨OB, 0, none⟩) zO).trans oi0, (h.cell (p := ⟨OB, 1, none⟩) zO).trans oi1, (h.cell (p := ⟨OB, 2, none⟩) zO).trans oi2, (h.cell (p := ⟨OB, 3, none⟩) zO).trans oi3, (h.cell (p := ⟨OB, 4, none⟩) zO).trans oi4, (h.cell (p := ⟨OB, 5, none⟩) zO).trans oi5, (h.cell (p := ⟨OB, 6, none⟩) zO).trans oi6, (h.cell (p := ⟨OB, 7, none⟩) zO).trans oi7, (h.cell (p := ⟨OB, 8, none⟩) zO).trans oi8, (h.cell (p := ⟨OB, 9, none⟩) zO).trans oi9, (h.cell (p := ⟨OB, 10, none⟩) zO).trans oi10⟩⟩, ⟨Nat.lt_of_lt_of_le zX h.size, Nat.lt_of_lt_of_le hgB h.size, Nat.lt_of_lt_of_le zO h.size⟩, h⟩
      have hkd : Kept w4 w4.drew := kept_drewN w4 1
      have HSA : Hid (Calls Try.prog 16 #[.slice aK 1 cK, .slice (some ⟨w4.heap.size, 0, none⟩) 1 1] (w4.drew.alloc (.cells #[.int .i64 1, .int .i64 0, .string (bs []), .string (bs []), .string (bs []), .string (bs []), .string (bs []), .slice none 0 0, .slice none 0 0, .slice (some ⟨L, 0, none⟩) 1 1, .slice none 0 0] 37)) (SamP (w4.drew.alloc (.cells #[.int .i64 1, .int .i64 0, .string (bs []), .string (bs []), .string (bs []), .string (bs []), .string (bs []), .slice none 0 0, .slice none 0 0, .slice (some ⟨L, 0, none⟩) 1 1, .slice none 0 0] 37)))) := by
        have hzb : Blk (w4.drew.alloc (.cells #[.int .i64 1, .int .i64 0, .string (bs []), .string (bs []), .string (bs []), .string (bs []), .string (bs []), .slice none 0 0, .slice none 0 0, .slice (some ⟨L, 0, none⟩) 1 1, .slice none 0 0] 37)) w4.heap.size 37 #[.int .i64 1, .int .i64 0, .string (bs []), .string (bs []), .string (bs []), .string (bs []), .string (bs []), .slice none 0 0, .slice none 0 0, .slice (some ⟨L, 0, none⟩) 1 1, .slice none 0 0] := Blk.new w4.drew 37 #[.int .i64 1, .int .i64 0, .string (bs []), .string (bs []), .string (bs []), .string (bs []), .string (bs []), .slice none 0 0, .slice none 0 0, .slice (some ⟨L, 0, none⟩) 1 1, .slice none 0 0]
        have hk1 : Kept w4 (w4.drew.alloc (.cells #[.int .i64 1, .int .i64 0, .string (bs []), .string (bs []), .string (bs []), .string (bs []), .string (bs []), .slice none 0 0, .slice none 0 0, .slice (some ⟨L, 0, none⟩) 1 1, .slice none 0 0] 37)) := hkd.trans (kept_alloc _ _)
        have hrow : Bls (fun _ => True) 4 1 (w4.drew.alloc (.cells #[.int .i64 1, .int .i64 0, .string (bs []), .string (bs []), .string (bs []), .string (bs []), .string (bs []), .slice none 0 0, .slice none 0 0, .slice (some ⟨L, 0, none⟩) 1 1, .slice none 0 0] 37)) (.slice (some ⟨w4.heap.size, 0, none⟩) 1 1) [bloP [textI t]] := row_blo (css := [[.int .i64 1, .int .i64 0, .string (bs []), .string (bs []), .string (bs []), .string (bs []), .string (bs []), .slice none 0 0, .slice none 0 0, .slice (some ⟨L, 0, none⟩) 1 1, .slice none 0 0]]) (xs := [bloP [textI t]]) hzb rfl (by intro cs h; rw [List.mem_singleton] at h; rw [h]; rfl) (fun j cs x h1 h2 => by
          cases j with
          | zero => cases h1; cases h2; exact para_blo (((HLZ.out.kept hk1).sam (fun _ _ _ => rfl) (fun _ _ _ => trivial)).ups (by omega))
          | succ j => simp at h1) trivial (Nat.le_refl _)
        exact sameblocks_eq 4 2 [bloP [textI t]] _ _ _ (HKK.out.kept hk1) (hrow.ups (by omega)) (by simp) (okBL_of (fun x hx => by rw [List.mem_singleton] at hx; rw [hx]; exact okB_p (okD_t htl) (by simp)))
      unfold SamP at HSA
      clear hB4 hKK HB
      go_region_held3 (fun w' => ((w'.cell? ⟨X, 1, none⟩ = some (.slice (some ⟨gB, oB, none⟩) 1 cB) ∧ w'.cell? ⟨gB, oB + 10, none⟩ = some (.slice aK 1 cK)) ∧ (w'.cell? ⟨OB, 0, none⟩ = some (.int .i64 1) ∧ w'.cell? ⟨OB, 1, none⟩ = some (.int .i64 0) ∧ w'.cell? ⟨OB, 2, none⟩ = some (.string (bs [])) ∧ w'.cell? ⟨OB, 3, none⟩ = some (.string (bs [])) ∧ w'.cell? ⟨OB, 4, none⟩ = some (.string (bs [])) ∧ w'.cell? ⟨OB, 5, none⟩ = some (.string (bs [])) ∧ w'.cell? ⟨OB, 6, none⟩ = some (.string (bs [])) ∧ w'.cell? ⟨OB, 7, none⟩ = some (.slice none 0 0) ∧ w'.cell? ⟨OB, 8, none⟩ = some (.slice none 0 0) ∧ w'.cell? ⟨OB, 9, none⟩ = some (.slice (some ⟨L, 0, none⟩) 1 1) ∧ w'.cell? ⟨OB, 10, none⟩ = some (.slice none 0 0))) ∧ (X < w'.heap.size ∧ gB < w'.heap.size ∧ OB < w'.heap.size) ∧ Kept w4 w')
        ((refine HCC.out _ ?_; first | assumption | exact Kept.trans (by assumption) (kept_alloc _ _)))
        (first
          | (go_at_call 6; refine (awake27_any _).mono ?_; rintro e w6 ⟨rfl, hk6⟩; have kB : Kept w4 w6 := Kept.trans (by assumption) hk6; clear hk6)
          | (go_at_call 16; refine HSA.out.mono ?_; rintro e w5 ⟨rfl, hk5⟩; have kA : Kept w4 w5 := (hkd.trans (kept_alloc _ _)).trans hk5; clear hk5))
      all_goals
        have HKZ := Lib.hid (HK3.out.trans kB)
        clear HCC HSA kA kB hkd
        go_wp2_with fail
        go_ret
        exact ⟨rfl, HKZ.out⟩
end Go.Proofs.Ythbnahagfojfbaa

/- What every row of a seat without listed variables needs: the arguments read behind a call that keeps what was there as they did before. No condition. -/
set_option linter.all false
namespace Go.Proofs.Ythbnahagfojfbaa
open Go.ChangeShapes Go.WideShapes Go.ChangeAt Go.RowKit

theorem Try.ownNone : ownKnob Try.prog.godebug = none := by kernel_rfl
theorem Try.laidOut : laidOutB Try.prog = true := by kernel_rfl

section
variable {H : Type} {enc : TypeId × Value → H} {P : Program}
theorem trodAll_stays (hl : laidOutB P = true) {W W' : World} {sp : Nat → Bool} : ∀ {ts : List TypeId} {vs : List Value} {ds : List (DataW H)} {p : List MemPlace},
    (∀ t ∈ ts, P.readableRec t = true ∧ t < P.types.size) → DataW.TrodAll enc P W 0 (fun _ => true) true ts vs ds p → (∀ x ∈ p, W.sameAt W' x) → (∀ x ∈ p, sp x.block = true) → DataW.TrodAll enc P W' 0 sp true ts vs ds p
  | [], vs, ds, p, _, h, _, _ => by
    obtain ⟨rfl, rfl, rfl⟩ := trodAll_nil h
    exact trodAll_mk0
  | t :: ts, vs, ds, p, hr, h, hs, hp => by
    obtain ⟨v, vs', d, ds', p1, p2, rfl, rfl, rfl, h0, h1⟩ := trodAll_cons h
    have h0' := WideElems.Trod_stays hl (hr t (by simp)).1 (hr t (by simp)).2 h0 (fun x hx => hs x (by simp [hx])) (sp' := sp) (fun x hx => hp x (by simp [hx]))
    exact trodAll_cons_mk h0' (trodAll_stays hl (fun t ht => hr t (by simp [ht])) h1 (fun x hx => hs x (by simp [hx])) (fun x hx => hp x (by simp [hx])))

/-- The post of a law: it answers true, and what was there is as it was. -/
theorem law_post {f : Func} {s : ChangeSpec} {apart fresh handsOn again : Bool} {W W' : World} {args : Array Value} {ds gs : List (DataW H)} {before : List MemPlace} {bt : TypeId}
    (hl : laidOutB P = true) (hread : ∀ t ∈ f.params.toList, P.readableRec t = true ∧ t < P.types.size) (hr : f.resultTypes = #[bt]) (hbt : P.underlying bt = some .bool) (hsv : s.vars = [])
    (hW : DataW.Whole enc P f.params.toList s.vars apart W args.toList ds gs before) (hs : s.fn H ds = { results := [.lit (.bool true)], args := ds }) (hb : Kept W W') :
    s.post enc P f apart fresh handsOn again W args (.bool true) W' := by
  have hW' := hW
  have hlt : ∀ p ∈ before, p.block < W.heap.size := fun p hp => hW'.lt p hp
  have hold : ∀ p ∈ before, (fun b => decide (b < W.heap.size)) p.block = true := fun p hp => by simpa using hlt p hp
  obtain ⟨pa, pv, hA, hV, hbe, hz, hn⟩ := hW
  rw [hsv] at hV
  obtain ⟨rfl, rfl⟩ := trodVars_none hV
  rw [List.append_nil] at hbe
  subst hbe
  have hs' : s.fn H (ds ++ []) = { results := [.lit (.bool true)], args := ds } := by rw [List.append_nil]; exact hs
  have hres : ∀ (b : Nat) (sp : Nat → Bool) (hd : Bool), DataW.TrodAll enc P W' b sp hd f.resultTypes.toList ((Value.bool true).resultList f.resultTypes.size) (s.fn H (ds ++ [])).results [] := by
    intro b sp hd
    rw [hs', hr]
    exact trodAll_cons_mk (shut_bool hbt _) trodAll_mk0
  have hargs : ∀ sp : Nat → Bool, (∀ p ∈ before, sp p.block = true) → DataW.TrodAll enc P W' 0 sp true f.params.toList args.toList (s.fn H (ds ++ [])).args before := by
    intro sp hsp
    rw [hs']
    exact trodAll_stays hl hread hA (fun x hx => hb.same (hlt x hx)) hsp
  have hvars : ∀ sp : Nat → Bool, DataW.TrodVars enc P W' sp s.vars (s.fn H (ds ++ [])).vars [] := by
    intro sp
    rw [hs', hsv]
    rfl
  have hok := ok_one (P := P) (W' := W') (v := .bool true) hr rfl (okWide_bool_mk hbt _)
  refine ⟨ds, [], before, [], before, [], hW', hres _ _ _, hargs _ hold, hvars _, World.keptBut_mono (fun p hp => ⟨hp, ?_⟩) (hb.frame (· ∈ before)), fun _ => ?_⟩
  · exact Or.inr (Or.inl hp)
  · refine ⟨hok, _, _, ([] ++ before) ++ [], ⟨[] ++ before, [], trodAll_append (hargs _ (fun _ _ => rfl)) (hres _ _ _), hvars _, rfl, ?_, ?_⟩, ?_⟩
    · intro b off hp
      have hin : MemPlace.cell b off ∈ before := by simpa using hp
      rw [hb.frozen (hlt _ hin)]
      exact hz b off hin
    · intro ha
      have := hn ha
      simpa using this
    · intro p hp _
      simpa using hp
end

end Go.Proofs.Ythbnahagfojfbaa
