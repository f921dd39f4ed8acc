/- gloss.Fill. Conditions: lengths; what is asked of a document's blocks. -/
import Derived.Test.YthbnahagfojfbaaG25
import Derived.Test.YthbnahagfojfbaaG19
import Derived.Test.YthbnahagfojfbaaG27
import Derived.Test.YthbnahagfojfbaaG04
import Derived.Test.YthbnahagfojfbaaG24
import Derived.Test.YthbnahagfojfbaaG13
import Derived.BigQuiet
import Derived.Laws.Cover4

set_option linter.all false
namespace Go.Proofs.Ythbnahagfojfbaa
open Go.RowKit

def mapE (es : List (Bs × Bs)) : List (Bs × Value) := es.map fun e => (e.1, .string (bs e.2))
/-- The identifier of a name. -/
def idsE (es : List (Bs × Bs)) (nm : Bs) : Bs := ((es.find? fun e => e.1 == nm).map (·.2)).getD []
theorem getT_mapE (es : List (Bs × Bs)) (nm : Bs) : getT (mapE es) nm = (es.find? fun e => e.1 == nm).map fun e => .string (bs e.2) := by
  induction es with
  | nil => rfl
  | cons e es ih =>
    show getT ((e.1, .string (bs e.2)) :: mapE es) nm = _
    rw [getT_cons, List.find?_cons, ih]
    by_cases h : e.1 = nm
    · simp [h]
    · have : (e.1 == nm) = false := by simpa using h
      rw [if_neg h, this]
theorem idsE_val (es : List (Bs × Bs)) (nm : Bs) : (getT (mapE es) nm).getD (.string (bs [])) = .string (bs (idsE es nm)) := by
  rw [getT_mapE]; unfold idsE
  cases es.find? fun e => e.1 == nm <;> rfl
theorem idsE_len {es : List (Bs × Bs)} (h : ∀ e ∈ es, e.2.length ≤ 1000000) (nm : Bs) : (idsE es nm).length ≤ 1000000 := by
  unfold idsE
  cases q : es.find? fun e => e.1 == nm with
  | none => simp
  | some e => exact h e (List.mem_of_find?_eq_some q)
theorem mapE_snoc {es : List (Bs × Bs)} {k : Nat} {e : Bs × Bs} (h : es[k]? = some e) : mapE (es.take (k + 1)) = mapE (es.take k) ++ [(e.1, .string (bs e.2))] := by
  unfold mapE; rw [take_snoc h, List.map_append]; rfl
theorem getT_none {es : List (Bs × Bs)} (hn : (es.map (·.1)).Nodup) {k : Nat} {e : Bs × Bs} (h : es[k]? = some e) : getT (mapE (es.take k)) e.1 = none := by
  rw [getT_mapE, Option.map_eq_none_iff, List.find?_eq_none]
  intro y hy q
  have q : y.1 = e.1 := by simpa using q
  obtain ⟨j, hj, rfl⟩ := List.getElem_of_mem hy
  have hk := (List.getElem?_eq_some_iff.1 h).1
  have hjk : j < k := by rw [List.length_take] at hj; omega
  rw [List.getElem_take] at q
  have e1 := (List.getElem?_eq_some_iff.1 h).2
  have := (List.pairwise_iff_getElem.1 hn) j k (by rw [List.length_map]; omega) (by rw [List.length_map]; omega) hjk
  rw [List.getElem_map, List.getElem_map, e1] at this
  exact this q
theorem getT_some (es : List (Bs × Bs)) (nm : Bs) : (getT (mapE es) nm).isSome = (es.map (·.1)).contains nm := by
  rw [getT_mapE, Option.isSome_map]
  rw [Bool.eq_iff_iff, List.find?_isSome, List.contains_iff_mem, List.mem_map]
  constructor
  · rintro ⟨y, hy, q⟩; exact ⟨y, hy, by simpa using q⟩
  · rintro ⟨y, hy, rfl⟩; exact ⟨y, hy, by simp⟩
def FillP (N M : Nat) (ms : List Pr) (es : List (Bs × Bs)) (c : ColT) (st : St) (xs : List Blo) (w : World) (e : Ending) (w' : World) : Prop :=
  ∃ vM vB ks, e = .returned (.tuple #[docV vM vB, .int .i64 0]) ∧ (∀ nm, nm ∈ ks ↔ (nm ∈ st.ns ∧ ∃ u ∈ st.us, useName u = nm)) ∧ Prs w' vM ms ∧ Bls (fun g => w.heap.size ≤ g ∧ g < w'.heap.size) (3 * N + 1) (M + 1) w' vB (blkL (idsE es) ks (cfN c) false xs) ∧ Kept w w'
def FillE (w : World) (e : Ending) (w' : World) : Prop := e = .returned (.tuple #[docV (.slice none 0 0) (.slice none 0 0), .int .i64 13]) ∧ Kept w w'
open Classical in
def FillQ (N M : Nat) (ms : List Pr) (es : List (Bs × Bs)) (c : ColT) (st : St) (xs : List Blo) (us : List Bs) (w : World) (e : Ending) (w' : World) : Prop := if (∀ u ∈ us, (es.map (·.1)).contains u = true) then FillP N M ms es c st xs w e w' else FillE w e w'
set_option maxRecDepth 100000 in
set_option maxHeartbeats 12800000 in
theorem gfill_any (N M : Nat) (vM vB vR vO : Value) (ms : List Pr) (xs : List Blo) (c : ColT) (w : World) (st : St) (es : List (Bs × Bs)) (hes : (defsL false xs).map entD = es) (hst : svL (-1) false xs ⟨[], [], []⟩ = st)
    (hm : Prs w vM ms) (hml : ms.length ≤ 1000000) (hv : Bls (fun g => g < w.heap.size) N (M + 1) w vB xs) (hcol : Col w vR vO c) (hsc : SmallC c) (hl : xs.length ≤ 1000000) (hok : okBL xs) (hot : okTL xs)
    (hn : (defsL false xs).length ≤ 1000000) (hnp : ∀ d ∈ defsL false xs, d.prs.length ≤ 1000000) (hg : goodD (defsL false xs)) (hil : ∀ e ∈ es, e.2.length ≤ 1000000)
    (hun : (inlsL xs).length ≤ 1000000) (hux : ∀ x ∈ inlsL xs, okU x) (hos : okSL (-1) false xs ⟨[], [], []⟩) (hnd : st.ns.Nodup) (hnl : st.ns.length ≤ 1000000) (hul : st.us.length ≤ 100000) (hx : ∀ x ∈ st.us, okU x ∧ x.kind = 11) :
    Calls Try.prog 12 #[docV vM vB, colV vR vO c.ignore] w (FillQ N M ms es c st xs (usesN (inlsL xs)) w) := by
  obtain ⟨aM, cM, rfl, lM⟩ := hm.form
  obtain ⟨aB, cB, rfl, lB⟩ := hv.form
  obtain ⟨aR, cR, rfl, lR⟩ := hcol.1.form
  obtain ⟨aO, cO, rfl, lO⟩ := hcol.2.form
  have HM := Lib.hid hm
  have HV := Lib.hid hv
  have HCOL := Lib.hid hcol
  have HNE : Hid ((es.map (·.1)).Nodup) := by
    have := hg.2
    rw [← hes, List.map_map]; exact this
  have hel : es.length ≤ 1000000 := by rw [← hes, List.length_map]; exact hn
  have HTER := Lib.hid (fun w (h1 : Bls (fun g => g < w.heap.size) N (M + 1) w (.slice aB xs.length cB) xs) => terms_any N M aM ms.length cM (.slice aB xs.length cB) xs w h1 hl hok hn hnp hg)
  have HUSE := Lib.hid (fun w (h1 : Bls (fun g => g < w.heap.size) N (M + 1) w (.slice aB xs.length cB) xs) => uses_any N (M + 1) aM ms.length cM (.slice aB xs.length cB) xs w h1 hl hok hun hux)
  have HNEED := Lib.hid (fun w (h1 : Bls (fun g => g < w.heap.size) N (M + 1) w (.slice aB xs.length cB) xs) => needed_any N (M + 1) aM ms.length cM (.slice aB xs.length cB) xs w st hst h1 hl hok hos hnd hnl hul hx)
  have HBKS := Lib.hid (fun F Mi Mn C ks w (h1 : Bls (fun g => g < w.heap.size) N (M + 1) w (.slice aB xs.length cB) xs) (h2 : FilD F Mi Mn C _ _ c (mapE es) ks (idsE es) w) => fblks_any (fun g => g < w.heap.size) F Mi Mn C (.slice aR c.ranks.length cR) (.slice aO c.order.length cO) c hsc (mapE es) ks (idsE es) N (M + 1) xs (.slice aB xs.length cB) false w h1 hl hok hot (fun h => by cases h) h2)
  have HIL := Lib.hid (idsE_len hil)
  rw [hes] at HTER
  unfold TerP at HTER
  unfold UseP at HUSE
  unfold NeedP at HNEED
  unfold BksP at HBKS
  obtain ⟨us, HUS⟩ : ∃ us, Hid (usesN (inlsL xs) = us) := ⟨_, rfl⟩
  rw [HUS.out] at HUSE ⊢
  have hus : us.length ≤ 1000000 := by rw [← HUS.out]; exact Nat.le_trans (usesN_len _) hun
  have HE : Hid (∀ w', ¬ (∀ u ∈ us, (es.map (·.1)).contains u = true) → Kept w w' → FillQ N M ms es c st xs us w (.returned (.tuple #[docV (.slice none 0 0) (.slice none 0 0), .int .i64 13])) w') := fun w' h1 h2 => by
    unfold FillQ; rw [if_neg h1]; exact ⟨rfl, h2⟩
  have HQ : Hid (∀ w' vM vB ks, (∀ u ∈ us, (es.map (·.1)).contains u = true) → (∀ nm, nm ∈ ks ↔ (nm ∈ st.ns ∧ ∃ u ∈ st.us, useName u = nm)) → Prs w' vM ms → Bls (fun g => w.heap.size ≤ g ∧ g < w'.heap.size) (3 * N + 1) (M + 1) w' vB (blkL (idsE es) ks (cfN c) false xs) → Kept w w' → FillQ N M ms es c st xs us w (.returned (.tuple #[docV vM vB, .int .i64 0])) w') := fun w' vM vB ks h1 h2 h3 h4 h5 => by
    unfold FillQ; rw [if_pos h1]; exact ⟨vM, vB, ks, rfl, h2, h3, h4, h5⟩
  generalize hP : FillQ N M ms es c st xs us w = P at *
  obtain ⟨D, HD⟩ : ∃ D, Hid (w.heap.size = D) := ⟨_, rfl⟩
  have hb1 := Blk.new w 45 #[.slice aM ms.length cM, .slice aB xs.length cB]
  have hk1 := kept_alloc w (.cells #[.slice aM ms.length cM, .slice aB xs.length cB] 45)
  have he1 : (w.alloc (.cells #[.slice aM ms.length cM, .slice aB xs.length cB] 45)).heap.size = D + 1 := by rw [← HD.out]; simp
  rw [HD.out] at hb1
  have HB1 := Lib.hid hb1
  have HK1 := Lib.hid hk1
  have HE1 := Lib.hid he1
  clear hm hv hcol hes hst hok hot hn hnp hg hil hun hux hos hnd hnl hul hx hP hb1 hk1 he1 HUS
  have hmf : ∀ (fn : Fn) (first cap : Array Value) (w : World), (Instr.makeFunc fn first cap).run Try.prog w = .ok (.func fn first cap) w := fun _ _ _ _ => rfl
  go_enter Try.func12, Try.ntmps12
  go_wp2_with fail
  generalize w.alloc _ = w1 at *
  have hb2 := Blk.new w1 26 #[.slice aR c.ranks.length cR, .slice aO c.order.length cO, .string (bs c.ignore)]
  have hk2 := kept_alloc w1 (.cells #[.slice aR c.ranks.length cR, .slice aO c.order.length cO, .string (bs c.ignore)] 26)
  have he2 : (w1.alloc (.cells #[.slice aR c.ranks.length cR, .slice aO c.order.length cO, .string (bs c.ignore)] 26)).heap.size = D + 2 := by have := HE1.out; simp; omega
  rw [HE1.out] at hb2
  generalize w1.alloc _ = w2 at *
  have hb3 := Blk.new w2 45 #[.slice none 0 0, .slice none 0 0]
  have hk3 := kept_alloc w2 (.cells #[.slice none 0 0, .slice none 0 0] 45)
  rw [he2] at hb3
  generalize w2.alloc _ = w3 at *
  obtain ⟨R, HRE⟩ : ∃ R, Hid (D + 1 + 1 = R) := ⟨_, rfl⟩
  rw [show D + 2 = R from HRE.out] at hb3
  rw [HD.out, HRE.out]
  have hDR : D + 2 = R := HRE.out
  have HDR := Lib.hid hDR
  clear hDR he2
  have HK3 := Lib.hid ((HK1.out.trans hk2).trans hk3)
  have HD3 := Lib.hid ((HB1.out.kept hk2).kept hk3)
  have HC3 := Lib.hid (hb2.kept hk3)
  have HR3 := Lib.hid hb3
  have HBLS : Hid (∀ w' : World, Kept w w' → Bls (fun g => g < w'.heap.size) N (M + 1) w' (.slice aB xs.length cB) xs) := fun w' k => Bls.mono (HV.out.kept k) (fun g h _ => h)
  clear hb2 hk2 hb3 hk3 HB1 HK1
  refine (HTER.out w3 (HBLS.out _ HK3.out)).mono ?_
  rintro e w4 ⟨vT, rfl, hrow, hk4⟩
  have HROW := Lib.hid hrow
  have HK4 := Lib.hid (HK3.out.trans hk4)
  have HD4 := Lib.hid (HD3.out.kept hk4)
  have HC4 := Lib.hid (HC3.out.kept hk4)
  have HR4 := Lib.hid (HR3.out.kept hk4)
  obtain ⟨aT, cT, rfl, lT⟩ := hrow.form
  clear hrow hk4 HK3 HD3 HC3 HR3 HTER
  have mk := run_makeMap (P := Try.prog) 64 w4
  have HM5 := Lib.hid (MapT.made w4)
  have HKM := Lib.hid (kept_alloc w4 (.map #[] 0))
  obtain ⟨Mi, HMI⟩ : ∃ m, Hid (w4.heap.size = m) := ⟨_, rfl⟩
  rw [HMI.out] at HM5
  have hDM : D + 2 < Mi := by have := HR4.out.lt; have := HMI.out; have := HDR.out; omega
  go_wp2_with fail
  rw [HMI.out]
  have HK5 := Lib.hid (HK4.out.trans HKM.out)
  have HD5 := Lib.hid (HD4.out.kept HKM.out)
  have HC5 := Lib.hid (HC4.out.kept HKM.out)
  have HR5 := Lib.hid (HR4.out.kept HKM.out)
  have HROW5 : Hid (RowR (fun g => g ≠ Mi) 5 (EntW (fun _ => True) w4) (w4.alloc (.map #[] 0)) (.slice aT es.length cT) es) := HROW.out.step (Sam.kept HKM.out) (fun g h _ q => by have := HMI.out; omega) (fun _ _ _ h => h)
  clear mk HROW HK4 HD4 HC4 HR4 HKM
  generalize w4.alloc _ = w5 at *
  go_loopw [28] (fun i wr => ∃ (k : Nat), k ≤ es.length ∧ i = .int .i64 k ∧ Hid (MapT wr Mi (mapE (es.take k))) ∧ Hid (Only (fun g => g = Mi) w5 wr)) (fun i _ => es.length - (intOf i).toNat)
  case atStart => exact ⟨0, Nat.zero_le _, rfl, HM5.out, Only.of_kept (Kept.refl w5)⟩
  case round =>
    obtain ⟨k, hk, rfl, HMR, HOR⟩ := hrel
    by_cases hlt : k < es.length
    · obtain ⟨x, hx⟩ : ∃ x, es[k]? = some x := ⟨_, List.getElem?_eq_getElem hlt⟩
      have hnone := getT_none HNE.out hx
      have HSN := Lib.hid (mapE_snoc hx)
      have hrr := (HROW5.out.step (S' := fun g => g ≠ Mi) (Sam.only HOR.out (fun g _ h q => h q)) (fun _ _ h => h) (fun _ _ _ h => h))
      obtain ⟨g, o, cs, rfl, hgg, -, hcl, hcell, hW, -, -⟩ := hrr.at_ k x hx
      obtain rfl : cs = [.int .i64 1, .string (bs x.2), .string (bs x.1), .slice none 0 0, .slice none 0 0] := hW
      have d0 := hcell 0 _ rfl
      have d1 := hcell 1 _ rfl
      have d2 := hcell 2 _ rfl
      have d3 := hcell 3 _ rfl
      have d4 := hcell 4 _ rfl
      rw [Nat.add_zero] at d0
      have hka := kept_alloc wr (.cells #[.int .i64 1, .string (bs x.2), .string (bs x.1), .slice none 0 0, .slice none 0 0] 55)
      have hm2 := HMR.out.kept hka
      have up := insT (P := Try.prog) Try.underlying64 Try.underlying9 (wr.alloc (.cells #[.int .i64 1, .string (bs x.2), .string (bs x.1), .slice none 0 0, .slice none 0 0] 55)) Mi (mapE (es.take k)) x.1 (.string (bs x.2)) hm2 hnone
      rw [← HSN.out] at up
      have hput := putT_map (wr.alloc (.cells #[.int .i64 1, .string (bs x.2), .string (bs x.1), .slice none 0 0, .slice none 0 0] 55)) Mi (mapE (es.take (k + 1))) hm2.lt
      have HPUT := Lib.hid hput
      have HO2 : Hid (Only (fun g => g = Mi) w5 (putT (wr.alloc (.cells #[.int .i64 1, .string (bs x.2), .string (bs x.1), .slice none 0 0, .slice none 0 0] 55)) Mi (mapE (es.take (k + 1))))) := (HOR.out.trans (Only.of_kept hka)).trans (putT_only _ _ _)
      clear hrr hcell hka hm2 hput hnone HSN HMR HOR hx
      go_wp2_with fail
      go_roundw
      case rel => exact ⟨k + 1, by omega, by go_num, HPUT.out, HO2.out⟩
      case measure => simp [intOf]; omega
    · obtain rfl : k = es.length := by omega
      rw [List.take_length] at HMR
      have HKR : Hid (Kept w wr) := HK5.out.trans' (HOR.out.below HK5.out.size (fun i h => by have := HD.out; omega))
      have HDQ := Lib.hid (HD5.out.onl HOR.out (by omega))
      have HCR := Lib.hid (HC5.out.onl HOR.out (by omega))
      have HRR := Lib.hid (HR5.out.onl HOR.out (by have := HDR.out; omega))
      have x0 : wr.cell? ⟨D, 0, none⟩ = some (.slice aM ms.length cM) := HDQ.out.cell 0 _ rfl
      have x1 : wr.cell? ⟨D, 1, none⟩ = some (.slice aB xs.length cB) := HDQ.out.cell 1 _ rfl
      clear HROW5 HM5 HK5 HD5 HC5 HR5 HOR
      go_wp2_with fail
      refine (HUSE.out wr (HBLS.out _ HKR.out)).mono ?_
      rintro e w6 ⟨vU, rfl, hU, hk6⟩
      have HK6 := Lib.hid (HKR.out.trans hk6)
      have HM6 := Lib.hid (HMR.out.kept hk6)
      have HD6 := Lib.hid (HDQ.out.kept hk6)
      have HC6 := Lib.hid (HCR.out.kept hk6)
      have HR6 := Lib.hid (HRR.out.kept hk6)
      have HU6 := Lib.hid hU
      obtain ⟨aU, cU, rfl, lU⟩ := hU.shape
      clear hU hk6 HKR HMR HDQ HCR HRR x0 x1 HUSE
      go_wp2_with fail
      go_loopw [41] (fun i wr => ∃ (k : Nat), k ≤ us.length ∧ i = .int .i64 k ∧ Hid (∀ u ∈ us.take k, (es.map (·.1)).contains u = true) ∧ w6 = wr) (fun i _ => us.length - (intOf i).toNat)
      case atStart => exact ⟨0, Nat.zero_le _, rfl, (fun u h => by simp at h), rfl⟩
      case round =>
        obtain ⟨k, hk, rfl, HAL, rfl⟩ := hrel
        by_cases hlt : k < us.length
        · obtain ⟨nm, hx⟩ : ∃ x, us[k]? = some x := ⟨_, List.getElem?_eq_getElem hlt⟩
          have hu := HU6.out
          obtain ⟨_, _, hvv, _, h3⟩ := hu
          cases hvv
          obtain ⟨g, o, rfl, hgg, hcell⟩ := h3 (by omega)
          have d0 := hcell k nm hx
          have lk := lookT_ok (P := Try.prog) Try.underlying64 Try.underlying9 w6 Mi (mapE es) nm _ (zero_str _) HM6.out
          rw [getT_some] at lk
          obtain ⟨Y, HY⟩ : ∃ y, Hid ((es.map (·.1)).contains nm = y) := ⟨_, Lib.hid rfl⟩
          rw [HY.out] at lk
          generalize (getT (mapE es) nm).getD (.string (bs [])) = lv at lk
          have HTS := Lib.hid (take_snoc hx)
          clear hcell h3
          cases Y with
          | true =>
            have HAL2 : Hid (∀ u ∈ us.take (k + 1), (es.map (·.1)).contains u = true) := by
              rw [HTS.out]
              intro u h
              rcases List.mem_append.1 h with h | h
              · exact HAL.out u h
              · rw [List.mem_singleton] at h; rw [h]; exact HY.out
            clear HAL HTS HY hx
            go_wp2_with fail
            go_roundw
            case rel => exact ⟨k + 1, by omega, by go_num, HAL2.out, trivial⟩
            case measure => simp [intOf]; omega
          | false =>
            have HNO : Hid (¬ ∀ u ∈ us, (es.map (·.1)).contains u = true) := fun h => by
              have := h nm (List.mem_of_getElem? hx)
              rw [HY.out] at this; cases this
            have HEE := Lib.hid (fun w' (h : Kept w w') => HE.out w' HNO.out h)
            have r0 : w6.cell? ⟨R, 0, none⟩ = some (.slice none 0 0) := HR6.out.cell 0 _ rfl
            have r1 : w6.cell? ⟨R, 1, none⟩ = some (.slice none 0 0) := HR6.out.cell 1 _ rfl
            have s0 := HR6.out.free 0
            have s1 := HR6.out.free 1
            have rz := HR6.out.lt
            clear HAL HTS HY hx HE HQ HBKS HNEED HNO
            have hwR : w.heap.size ≤ R := by have := HD.out; have := HDR.out; omega
            go_wp2_with fail
            refine bodyPost_ret (v := .tuple #[docV (.slice none 0 0) (.slice none 0 0), .int .i64 13]) ?_ rfl (HEE.out _ (kept_set (kept_set HK6.out R 0 _ hwR) R 1 _ hwR))
            simp [results, Try.results12, go_sem, r0, r1, rz]
        · obtain rfl : k = us.length := by omega
          rw [List.take_length] at HAL
          have HQ2 := Lib.hid (fun w' vM vB ks => HQ.out w' vM vB ks HAL.out)
          have x0 : w6.cell? ⟨D, 0, none⟩ = some (.slice aM ms.length cM) := HD6.out.cell 0 _ rfl
          have x1 : w6.cell? ⟨D, 1, none⟩ = some (.slice aB xs.length cB) := HD6.out.cell 1 _ rfl
          clear HQ HE HAL HU6
          go_wp2_with fail
          refine (HNEED.out w6 (HBLS.out _ HK6.out)).mono ?_
          rintro e w7 ⟨Mn, ks, rfl, hMn, hks, -, hk7⟩
          have HKS := Lib.hid hks
          have HQ3 := Lib.hid (fun w' vM vB => HQ2.out w' vM vB ks hks)
          have HMN := Lib.hid hMn
          have HK7 := Lib.hid (HK6.out.trans hk7)
          have HM7 := Lib.hid (HM6.out.kept hk7)
          have HD7 := Lib.hid (HD6.out.kept hk7)
          have HC7 := Lib.hid (HC6.out.kept hk7)
          have HR7 := Lib.hid (HR6.out.kept hk7)
          clear hks hMn hk7 HK6 HM6 HD6 HC6 HR6 x0 x1 HNEED HQ2
          have HF8 := Lib.hid (Blk.new w7 70 #[.map (some Mi), .map (some Mn), .func (.func 20) #[] #[.pointer (some ⟨D + 1, 0, none⟩)]])
          have hk8 := kept_alloc w7 (.cells #[.map (some Mi), .map (some Mn), .func (.func 20) #[] #[.pointer (some ⟨D + 1, 0, none⟩)]] 70)
          obtain ⟨F, HF⟩ : ∃ m, Hid (w7.heap.size = m) := ⟨_, rfl⟩
          rw [HF.out] at HF8
          go_wp2_with fail
          generalize w7.alloc _ = w8 at *
          rw [HF.out]
          have HK8 := Lib.hid (HK7.out.trans hk8)
          have HD8 := Lib.hid (HD7.out.kept hk8)
          have HR8 := Lib.hid (HR7.out.kept hk8)
          have HFD : Hid (FilD F Mi Mn (D + 1) (.slice aR c.ranks.length cR) (.slice aO c.order.length cO) c (mapE es) ks (idsE es) w8) :=
            ⟨⟨HF8.out, HM7.out.kept hk8, MapK_kept HMN.out hk8, idsE_val es, HIL.out⟩, HC7.out.kept hk8, HCOL.out.kept HK8.out⟩
          have HB8 := Lib.hid (fun w' (k : Kept w8 w') => HBKS.out F Mi Mn (D + 1) ks w' (HBLS.out _ (HK8.out.trans k)) (HFD.out.kept k))
          have HM8 := Lib.hid (fun w' (k : Kept w8 w') => clnF (.slice aM ms.length cM) ms w' (HM.out.kept (HK8.out.trans k)) (by omega))
          unfold ClnF at HM8
          have x0 : w8.cell? ⟨D, 0, none⟩ = some (.slice aM ms.length cM) := HD8.out.cell 0 _ rfl
          have x1 : w8.cell? ⟨D, 1, none⟩ = some (.slice aB xs.length cB) := HD8.out.cell 1 _ rfl
          have zD : D < w8.heap.size := HD8.out.lt
          have hR8 : R < w8.heap.size := HR8.out.lt
          have hDR' : D ≠ R := by have := HDR.out; omega
          have hwR : w.heap.size ≤ R := by have := HD.out; have := HDR.out; omega
          have HCC : Hid (∀ w', Only (fun i => i = R) w8 w' → (w'.cell? ⟨D, 0, none⟩ = some (.slice aM ms.length cM) ∧ w'.cell? ⟨D, 1, none⟩ = some (.slice aB xs.length cB)) ∧ D < w'.heap.size ∧ Only (fun i => i = R) w8 w') := fun w' h => ⟨⟨(h.cell D 0 zD hDR').trans x0, (h.cell D 1 zD hDR').trans x1⟩, Nat.lt_of_lt_of_le zD h.size, h⟩
          have hkd : Kept w8 w8.drew := kept_drewN w8 1
          have hod : Only (fun i => i = R) w8 w8.drew := Only.of_kept hkd
          clear HK7 HM7 HD7 HC7 HR7 HMN HF8 hk8 HBKS HFD hmf
          go_region_held3 (fun w' => (w'.cell? ⟨D, 0, none⟩ = some (.slice aM ms.length cM) ∧ w'.cell? ⟨D, 1, none⟩ = some (.slice aB xs.length cB)) ∧ D < w'.heap.size ∧ Only (fun i => i = R) w8 w')
            ((refine HCC.out _ ?_; assumption))
            (first
              | (go_at_call 24; refine (HB8.out _ kA).mono ?_; rintro e wb ⟨vB1, rfl, hB1, hkb⟩; have kB : Kept w8 wb := kA.trans hkb; have oB : Only (fun i => i = R) w8 wb := Only.of_kept kB; have HBR := Lib.hid hB1; have HMB := Lib.hid (HMA.out.kept hkb); obtain ⟨aB1, cB1, rfl, lB1⟩ := hB1.form; have KAS : w8.heap.size ≤ wa.heap.size := kA.size; have KBZ := Lib.hid kB; have oC : Only (fun i => i = R) w8 ((wb.setCell ⟨R, 0, none⟩ (.slice aM1 ms.length cM1)).setCell ⟨R, 1, none⟩ (.slice aB1 (blkL (idsE es) ks (cfN c) false xs).length cB1)) := (oB.trans (Only.setCell (w := wb) R 0 (.slice aM1 ms.length cM1))).trans (Only.setCell R 1 (.slice aB1 (blkL (idsE es) ks (cfN c) false xs).length cB1)); have r0 : wb.cell? ⟨R, 0, none⟩ = some (.slice none 0 0) := (HR8.out.kept kB).cell 0 _ rfl; have r1 : wb.cell? ⟨R, 1, none⟩ = some (.slice none 0 0) := (HR8.out.kept kB).cell 1 _ rfl; have s0 := (HR8.out.kept kB).free 0; have s1 := (HR8.out.kept kB).free 1; have rz := (HR8.out.kept kB).lt; clear hB1 hkb)
              | (go_at_call 23; refine (HM8.out _ (by assumption)).mono ?_; rintro e wa ⟨vM1, rfl, hm1, hi1, hka⟩; have kA : Kept w8 wa := Kept.trans (by assumption) hka; have oA : Only (fun i => i = R) w8 wa := Only.of_kept kA; have HMA := Lib.hid hm1; have HIM : Hid (InB (fun g => R < g) vM1 ms.length) := hi1.mono (fun g _ _ q => Nat.lt_of_lt_of_le hR8 q); obtain ⟨aM1, cM1, rfl, lM1⟩ := hm1.form; clear hm1 hi1 hka))
          all_goals
            have ho1 := Only.setCell (w := wb) R 0 (.slice aM1 ms.length cM1)
            have ho2 := Only.setCell (w := wb.setCell ⟨R, 0, none⟩ (.slice aM1 ms.length cM1)) R 1 (.slice aB1 (blkL (idsE es) ks (cfN c) false xs).length cB1)
            have ho := ho1.trans ho2
            have hk9 := kept_set (kept_set (HK8.out.trans KBZ.out) R 0 (.slice aM1 ms.length cM1) hwR) R 1 (.slice aB1 (blkL (idsE es) ks (cfN c) false xs).length cB1) hwR
            have hb9 : Bls (fun g => w.heap.size ≤ g ∧ g < ((wb.setCell ⟨R, 0, none⟩ (.slice aM1 ms.length cM1)).setCell ⟨R, 1, none⟩ (.slice aB1 (blkL (idsE es) ks (cfN c) false xs).length cB1)).heap.size) (3 * N + 1) (M + 1) ((wb.setCell ⟨R, 0, none⟩ (.slice aM1 ms.length cM1)).setCell ⟨R, 1, none⟩ (.slice aB1 (blkL (idsE es) ks (cfN c) false xs).length cB1)) (.slice aB1 (blkL (idsE es) ks (cfN c) false xs).length cB1) (blkL (idsE es) ks (cfN c) false xs) :=
              (HBR.out.sam (S' := fun g => w.heap.size ≤ g) (Sam.only ho (fun g _ q q2 => by omega)) (fun g _ q => Nat.le_trans HK8.out.size (Nat.le_trans KAS q))).mono (fun g h q => ⟨q, h⟩)
            have hm9 := HMB.out.onlS HIM.out ho (fun g _ q q2 => by omega)
            have HFI := Lib.hid (HQ3.out _ _ _ hm9 hb9 hk9)
            clear ho1 ho2 ho hk9 hb9 hm9 HQ3
            go_wp2_with fail
            refine bodyPost_ret (v := .tuple #[docV (.slice aM1 ms.length cM1) (.slice aB1 (blkL (idsE es) ks (cfN c) false xs).length cB1), .int .i64 0]) ?_ rfl HFI.out
            simp [results, Try.results12, go_sem, r0, r1, rz]
end Go.Proofs.Ythbnahagfojfbaa

/- The reference's equality of pairs: equal lists are told equal. Conditions: lengths. -/
set_option linter.all false
namespace Go.Proofs.Ythbnahagfojfbaa
open Go.RowKit

set_option maxRecDepth 100000 in
set_option maxHeartbeats 1600000 in
theorem pairs_eq (v v' : Value) (ps : List Pr) (w : World) (hv : Prs w v ps) (hv' : Prs w v' ps) (hN : ps.length ≤ 1100000) :
    Calls Try.prog 25 #[v, v'] w fun e w' => e = .returned (.bool true) ∧ Kept w w' := by
  have HV := Lib.hid hv
  have HV2 := Lib.hid hv'
  obtain ⟨a, c, rfl, hc, h3⟩ := hv
  obtain ⟨b, d, rfl, hd, h4⟩ := hv'
  clear h3 h4
  go_enter Try.func25, Try.ntmps25
  go_wp2_with fail
  go_loopw [5] (fun i wr => ∃ k : Nat, k ≤ ps.length ∧ i = .int .i64 k ∧ Kept w wr) (fun i _ => ps.length - (intOf i).toNat)
  case atStart => exact ⟨0, Nat.zero_le _, rfl, Kept.refl _⟩
  case round =>
    obtain ⟨k, hk, rfl, hkr⟩ := hrel
    have HR := Lib.hid hkr
    by_cases hlt : k < ps.length
    · obtain ⟨q, hx⟩ : ∃ x, ps[k]? = some x := ⟨_, List.getElem?_eq_getElem hlt⟩
      obtain ⟨a', c', hva, _, h3⟩ := HV.out.kept hkr
      obtain ⟨rfl, hdead, rfl⟩ := Value.slice.inj hva
      clear hdead
      obtain ⟨b', d', hvb, _, h4⟩ := HV2.out.kept hkr
      obtain ⟨rfl, hdead, rfl⟩ := Value.slice.inj hvb
      clear hdead
      obtain ⟨g, o, rfl, hg, hcc⟩ := h3 (by omega)
      obtain ⟨g2, o2, rfl, hg2, hcc2⟩ := h4 (by omega)
      obtain ⟨c0, c1⟩ := hcc k q hx
      obtain ⟨d0, d1⟩ := hcc2 k q hx
      clear hkr hcc hcc2 h3 h4 hva hvb hx
      obtain ⟨q1, q2⟩ := q
      simp only at c0 c1 d0 d1
      go_wp2_with fail
      go_region
      all_goals
        go_wp2_with fail
        go_roundw
        case rel => exact ⟨k + 1, by omega, by go_num, HR.out.trans (kept_drewN _ _)⟩
        case measure => simp [intOf]; omega
    · clear hkr
      go_wp2_with fail
      go_ret
      exact ⟨rfl, HR.out⟩
end Go.Proofs.Ythbnahagfojfbaa

/- word, term, use, para and glossary of law27. No condition. -/
set_option linter.all false
namespace Go.Proofs.Ythbnahagfojfbaa
open Go.RowKit

def lowB (b : UInt8) : UInt8 := 97 + b % 26
def wordL (l : Bs) : Bs := (l.map lowB).take 10 ++ [119]
theorem lowB_nat (b : UInt8) : (lowB b).toNat = 97 + b.toNat % 26 := by
  unfold lowB
  rw [UInt8.toNat_add, UInt8.toNat_mod]
  show (97 + b.toNat % 26) % 256 = _
  omega
theorem wordL_len (l : Bs) : (wordL l).length ≤ 11 := by unfold wordL; rw [List.length_append, List.length_take, List.length_singleton]; omega
theorem wordL_ne (l : Bs) : wordL l ≠ [] := by unfold wordL; simp
/-- The slice v reads in w as the bytes l. -/
def Byt (w : World) (v : Value) (l : Bs) : Prop := ∃ a c, v = .slice a l.length c ∧ l.length ≤ c ∧ (0 < l.length → ∃ g o, a = some ⟨g, o, none⟩ ∧ g < w.heap.size ∧ ∀ j x, l[j]? = some x → w.cell? ⟨g, o + j, none⟩ = some (.int .u8 (x.toNat : Int)))
theorem Byt.kept {w w' : World} {v : Value} {l : Bs} (h : Byt w v l) (k : Kept w w') : Byt w' v l := by
  obtain ⟨a, c, hv, hc, h3⟩ := h
  refine ⟨a, c, hv, hc, fun q => ?_⟩
  obtain ⟨g, o, ha, hg, hcell⟩ := h3 q
  exact ⟨g, o, ha, Nat.lt_of_lt_of_le hg k.size, fun j x hx => (k.cell (p := ⟨g, o + j, none⟩) hg).trans (hcell j x hx)⟩
theorem conv_byte (w : World) (b : UInt8) : (convert 33 9 (.slice (some ⟨w.heap.size, 0, none⟩) 1 1)).run Try.prog (w.alloc (.cells #[.int .u8 (b.toNat : Int)] 5)) = .ok (.string (bs [b])) (w.alloc (.cells #[.int .u8 (b.toNat : Int)] 5)) := by
  refine run_convert_bytes_back (P := Try.prog) (w.alloc (.cells #[.int .u8 (b.toNat : Int)] 5)) 33 9 5 ⟨w.heap.size, 0, none⟩ 1 [b] Try.underlying33 Try.underlying5 Try.underlying9 ?_
  intro j hj
  exact new_cells w #[.int .u8 (b.toNat : Int)] 5 w.heap.size rfl j _ (by
    have : j = 0 := by simpa using hj
    subst this; rfl)
set_option maxRecDepth 100000 in
set_option maxHeartbeats 3200000 in
theorem word_any (v : Value) (l : Bs) (w : World) (hv : Byt w v l) (hl : l.length ≤ 140737488355328) :
    Calls Try.prog 8 #[v] w fun e w' => e = .returned (.string (bs (wordL l))) ∧ Kept w w' := by
  have HV := Lib.hid hv
  obtain ⟨L, HL⟩ : ∃ L, Hid (l.map lowB = L) := ⟨_, rfl⟩
  have HLL : Hid (L.length = l.length) := by show _ = _; rw [← HL.out, List.length_map]
  have HN : Hid (∀ k, k ≤ l.length → ¬ (k < l.length ∧ k < 10) → k ≤ 10 → L.take k ++ [119] = wordL l) := fun k h1 h2 h3 => by
    unfold wordL
    rw [HL.out]
    have := HLL.out
    by_cases q : k = 10
    · rw [q]
    · rw [List.take_of_length_le (show L.length ≤ k by omega), List.take_of_length_le (show L.length ≤ 10 by omega)]
  obtain ⟨a, c, rfl, hc, -⟩ := hv
  generalize wordL l = R at *
  go_enter Try.func8, Try.ntmps8
  go_wp2_with fail
  simp only [mk_bs]
  go_loopw [3, 4] (fun s i wr => ∃ k : Nat, k ≤ l.length ∧ k ≤ 10 ∧ i = .int .i64 k ∧ s = .string (bs (L.take k)) ∧ Hid (Kept w wr)) (fun _ i _ => 10 - (intOf i).toNat)
  case atStart => exact ⟨0, Nat.zero_le _, by omega, rfl, rfl, Kept.refl _⟩
  case round =>
    obtain ⟨k, hk, hk10, rfl, rfl, HKR⟩ := hrel
    by_cases hlt : k < l.length ∧ k < 10
    · obtain ⟨h1, h2⟩ := hlt
      obtain ⟨x, hx⟩ : ∃ x, l[k]? = some x := ⟨_, List.getElem?_eq_getElem h1⟩
      obtain ⟨_, _, hvv, _, h3⟩ := HV.out.kept HKR.out
      cases hvv
      obtain ⟨g, o, rfl, hg, hcell⟩ := h3 (by omega)
      have d0 := hcell k x hx
      have HT : Hid (L.take (k + 1) = L.take k ++ [lowB x]) := take_snoc (by rw [← HL.out, List.getElem?_map, hx]; rfl)
      have hcv := conv_byte wr (lowB x)
      have hx1 : x.toNat < 256 := x.toNat_lt
      have hcl : (L.take k).length ≤ 10 := by rw [List.length_take]; omega
      have hle : ((lowB x).toNat : Int) = 97 + (x.toNat : Int) % 26 := by rw [lowB_nat]; omega
      rw [hle] at hcv
      have HKA := Lib.hid (kept_alloc wr (.cells #[.int .u8 (97 + (x.toNat : Int) % 26)] 5))
      have h2' : (k : Int) < 10 := by omega
      clear h3 hcell hx HN hle
      go_wp2_with fail
      go_roundw
      case rel => exact ⟨k + 1, by omega, by omega, by go_num, by rw [HT.out], HKR.out.trans HKA.out⟩
      case measure => simp [intOf]; omega
    · have HR := Lib.hid (HN.out k hk hlt hk10)
      have hcl : (L.take k).length ≤ 10 := by rw [List.length_take]; omega
      clear HN
      by_cases q : k < l.length
      · have q2 : ¬ (k : Int) < 10 := by omega
        go_wp2_with fail
        go_ret
        exact ⟨by rw [← HR.out]; rfl, HKR.out⟩
      · go_wp2_with fail
        go_ret
        exact ⟨by rw [← HR.out]; rfl, HKR.out⟩
def bloT (nm id : Bs) (kids : List Blo) : Blo := .mk 13 0 kTerm [] [] [] id [] [(kName, nm)] [] kids
def inlU (s : Bs) : Inl := .mk 11 [] [] [] [] [kTerm] [] [] [] [.mk 1 s [] [] [] [] [] [] [] []]
def bloP (l : List Inl) : Blo := .mk 1 0 [] [] [] [] [] [] [] l []
def bloG (l : List Blo) : Blo := .mk 13 0 kGlos [] [] [] [] [] [] [] l
theorem prs_one {w : World} {P : Nat} {k v : Bs} (h : Blk w P 60 #[.string (bs k), .string (bs v)]) : Prs w (.slice (some ⟨P, 0, none⟩) 1 1) [(k, v)] :=
  ⟨_, _, rfl, Nat.le_refl _, fun _ => ⟨P, 0, rfl, h.lt, fun j q hj => by
    have h0 : j = 0 := by have := (List.getElem?_eq_some_iff.1 hj).1; simpa using this
    subst h0
    cases hj
    exact ⟨h.cell 0 _ rfl, h.cell 1 _ rfl⟩⟩⟩
theorem strs_one {w : World} {P : Nat} {v : Bs} (h : Blk w P 9 #[.string (bs v)]) : Strs w (.slice (some ⟨P, 0, none⟩) 1 1) [v] :=
  ⟨_, _, rfl, Nat.le_refl _, fun _ => ⟨P, 0, rfl, h.lt, fun j q hj => by
    have h0 : j = 0 := by have := (List.getElem?_eq_some_iff.1 hj).1; simpa using this
    subst h0
    cases hj
    exact h.cell 0 _ rfl⟩⟩
theorem inB_one {S : Nat → Prop} {P : Nat} (h : S P) (n : Nat) : InB S (.slice (some ⟨P, 0, none⟩) 1 1) n := fun _ g q => by
  have : P = g := by simpa [Value.ownBlock] using q
  rw [← this]; exact h
set_option maxRecDepth 100000 in
theorem term_any (nm id : Bs) (aK : Option Addr) (nK cK : Nat) (w : World) :
    Calls Try.prog 9 #[.string (bs nm), .string (bs id), .slice aK nK cK] w fun e w' => ∃ P : Nat, e = .returned (blV 13 0 kTerm [] [] [] id (.slice none 0 0) (.slice (some ⟨P, 0, none⟩) 1 1) (.slice none 0 0) (.slice aK nK cK)) ∧ w.heap.size ≤ P ∧ Blk w' P 60 #[.string (bs kName), .string (bs nm)] ∧ Kept w w' := by
  have e1 : (w.alloc (.cells #[.int .i64 13, .int .i64 0, .string (bs [116, 101, 114, 109]), .string (bs []), .string (bs []), .string (bs []), .string (bs id), .slice none 0 0, .slice (some ⟨w.heap.size + 1, 0, none⟩) 1 1, .slice none 0 0, .slice aK nK cK] 37)).heap.size = w.heap.size + 1 := by simp
  have hb := Blk.new (w.alloc (.cells #[.int .i64 13, .int .i64 0, .string (bs [116, 101, 114, 109]), .string (bs []), .string (bs []), .string (bs []), .string (bs id), .slice none 0 0, .slice (some ⟨w.heap.size + 1, 0, none⟩) 1 1, .slice none 0 0, .slice aK nK cK] 37)) 60 #[.string (bs [110, 97, 109, 101]), .string (bs nm)]
  rw [e1] at hb
  have HB := Lib.hid hb
  clear hb e1
  go_enter Try.func9, Try.ntmps9
  go_wp2_with fail
  refine bodyPost_ret (v := blV 13 0 kTerm [] [] [] id (.slice none 0 0) (.slice (some ⟨w.heap.size + 1, 0, none⟩) 1 1) (.slice none 0 0) (.slice aK nK cK)) ?_ rfl ⟨w.heap.size + 1, rfl, by omega, HB.out, (kept_alloc _ _).trans (kept_alloc _ _)⟩
  simp [results, Try.results9, go_sem, kTerm]
def useV (C K : Nat) : Value := .agg #[.int .i64 11, .string (bs []), .string (bs []), .string (bs []), .string (bs []), .slice (some ⟨C, 0, none⟩) 1 1, .slice none 0 0, .slice none 0 0, .slice none 0 0, .slice (some ⟨K, 0, none⟩) 1 1]
set_option maxRecDepth 100000 in
theorem use_any (s : Bs) (w : World) :
    Calls Try.prog 10 #[.string (bs s)] w fun e w' => ∃ C K : Nat, e = .returned (useV C K) ∧ w.heap.size ≤ C ∧ w.heap.size ≤ K ∧ Blk w' C 9 #[.string (bs kTerm)] ∧ Blk w' K 41 #[.int .i64 1, .string (bs s), .string (bs []), .string (bs []), .string (bs []), .slice none 0 0, .slice none 0 0, .slice none 0 0, .slice none 0 0, .slice none 0 0] ∧ Kept w w' := by
  have hk : ∀ (w0 : World) (n : Nat), w0.heap.size = n → Kept w w0 → w.heap.size ≤ n → ∃ C K : Nat, useV n (n + 1) = useV C K ∧ w.heap.size ≤ C ∧ w.heap.size ≤ K ∧ Blk ((w0.alloc (.cells #[.string (bs [116, 101, 114, 109])] 9)).alloc (.cells #[.int .i64 1, .string (bs s), .string (bs []), .string (bs []), .string (bs []), .slice none 0 0, .slice none 0 0, .slice none 0 0, .slice none 0 0, .slice none 0 0] 41)) C 9 #[.string (bs kTerm)] ∧ Blk ((w0.alloc (.cells #[.string (bs [116, 101, 114, 109])] 9)).alloc (.cells #[.int .i64 1, .string (bs s), .string (bs []), .string (bs []), .string (bs []), .slice none 0 0, .slice none 0 0, .slice none 0 0, .slice none 0 0, .slice none 0 0] 41)) K 41 #[.int .i64 1, .string (bs s), .string (bs []), .string (bs []), .string (bs []), .slice none 0 0, .slice none 0 0, .slice none 0 0, .slice none 0 0, .slice none 0 0] ∧ Kept w ((w0.alloc (.cells #[.string (bs [116, 101, 114, 109])] 9)).alloc (.cells #[.int .i64 1, .string (bs s), .string (bs []), .string (bs []), .string (bs []), .slice none 0 0, .slice none 0 0, .slice none 0 0, .slice none 0 0, .slice none 0 0] 41)) := by
    intro w0 n hn hk hw
    have b1 := Blk.new w0 9 #[.string (bs [116, 101, 114, 109])]
    have e1 : (w0.alloc (.cells #[.string (bs [116, 101, 114, 109])] 9)).heap.size = n + 1 := by simp [hn]
    have b2 := Blk.new (w0.alloc (.cells #[.string (bs [116, 101, 114, 109])] 9)) 41 #[.int .i64 1, .string (bs s), .string (bs []), .string (bs []), .string (bs []), .slice none 0 0, .slice none 0 0, .slice none 0 0, .slice none 0 0, .slice none 0 0]
    rw [hn] at b1
    rw [e1] at b2
    exact ⟨n, n + 1, rfl, hw, by omega, b1.kept (kept_alloc _ _), b2, (hk.trans (kept_alloc _ _)).trans (kept_alloc _ _)⟩
  have HK := Lib.hid hk
  clear hk
  have e0 : (w.alloc (.cells #[.int .i64 11, .string (bs []), .string (bs []), .string (bs []), .string (bs []), .slice (some ⟨w.heap.size + 1, 0, none⟩) 1 1, .slice none 0 0, .slice none 0 0, .slice none 0 0, .slice (some ⟨w.heap.size + 1 + 1, 0, none⟩) 1 1] 41)).heap.size = w.heap.size + 1 := by simp
  have HE0 := Lib.hid e0
  clear e0
  go_enter Try.func10, Try.ntmps10
  go_wp2_with fail
  obtain ⟨C, K, h1, h2, h3, h4, h5, h6⟩ := HK.out _ (w.heap.size + 1) HE0.out (kept_alloc w _) (by omega)
  refine bodyPost_ret (v := useV (w.heap.size + 1) (w.heap.size + 1 + 1)) ?_ rfl ⟨C, K, by rw [h1], h2, h3, h4, h5, h6⟩
  simp [results, Try.results10, go_sem, useV]
set_option maxRecDepth 100000 in
theorem para_any (aL : Option Addr) (nL cL : Nat) (w : World) :
    Calls Try.prog 11 #[.slice aL nL cL] w fun e w' => e = .returned (blV 1 0 [] [] [] [] [] (.slice none 0 0) (.slice none 0 0) (.slice aL nL cL) (.slice none 0 0)) ∧ Kept w w' := by
  go_enter Try.func11, Try.ntmps11
  go_wp2_with fail
  refine bodyPost_ret (v := blV 1 0 [] [] [] [] [] (.slice none 0 0) (.slice none 0 0) (.slice aL nL cL) (.slice none 0 0)) ?_ rfl ⟨rfl, kept_alloc _ _⟩
  simp [results, Try.results11, go_sem]
set_option maxRecDepth 100000 in
theorem glossary_any (aK : Option Addr) (nK cK : Nat) (w : World) :
    Calls Try.prog 13 #[.slice aK nK cK] w fun e w' => e = .returned (blV 13 0 kGlos [] [] [] [] (.slice none 0 0) (.slice none 0 0) (.slice none 0 0) (.slice aK nK cK)) ∧ Kept w w' := by
  go_enter Try.func13, Try.ntmps13
  go_wp2_with fail
  refine bodyPost_ret (v := blV 13 0 kGlos [] [] [] [] (.slice none 0 0) (.slice none 0 0) (.slice none 0 0) (.slice aK nK cK)) ?_ rfl ⟨rfl, kept_alloc _ _⟩
  simp [results, Try.results13, go_sem, kGlos]
theorem use_inl {n : Nat} {S : Nat → Prop} {w : World} {C K : Nat} {s : Bs} (hC : S C) (hK : S K) (h4 : Blk w C 9 #[.string (bs kTerm)]) (h5 : Blk w K 41 #[.int .i64 1, .string (bs s), .string (bs []), .string (bs []), .string (bs []), .slice none 0 0, .slice none 0 0, .slice none 0 0, .slice none 0 0, .slice none 0 0]) :
    InlK (n + 1) S w [.int .i64 11, .string (bs []), .string (bs []), .string (bs []), .string (bs []), .slice (some ⟨C, 0, none⟩) 1 1, .slice none 0 0, .slice none 0 0, .slice none 0 0, .slice (some ⟨K, 0, none⟩) 1 1] (inlU s) :=
  ⟨_, _, _, _, _, rfl, ⟨strs_one h4, inB_one hC _⟩, ⟨Prs.none_ w, InB.nil _ _⟩, ⟨Strs.none_ w, InB.nil _ _⟩, RowR.none_ _ _ _ _,
    one_inl h5 rfl hK ⟨_, _, _, _, _, rfl, ⟨Strs.none_ w, InB.nil _ _⟩, ⟨Prs.none_ w, InB.nil _ _⟩, ⟨Strs.none_ w, InB.nil _ _⟩, RowR.none_ _ _ _ _, Lns.none_ _ _ _⟩⟩
theorem term_blo {N M : Nat} {S : Nat → Prop} {w : World} {P : Nat} {nm id : Bs} {vK : Value} {kids : List Blo} (hP : S P) (h : Blk w P 60 #[.string (bs kName), .string (bs nm)]) (hk : Bls S N M w vK kids) :
    BloK N M S w [.int .i64 13, .int .i64 0, .string (bs kTerm), .string (bs []), .string (bs []), .string (bs []), .string (bs id), .slice none 0 0, .slice (some ⟨P, 0, none⟩) 1 1, .slice none 0 0, vK] (bloT nm id kids) :=
  ⟨_, _, _, _, rfl, ⟨Strs.none_ w, InB.nil _ _⟩, ⟨prs_one h, inB_one hP _⟩, Lns.none_ _ _ _, hk⟩
theorem para_blo {N M : Nat} {S : Nat → Prop} {w : World} {vL : Value} {l : List Inl} (hl : Lns S N w vL l) :
    BloK N M S w [.int .i64 1, .int .i64 0, .string (bs []), .string (bs []), .string (bs []), .string (bs []), .string (bs []), .slice none 0 0, .slice none 0 0, vL, .slice none 0 0] (bloP l) :=
  ⟨_, _, _, _, rfl, ⟨Strs.none_ w, InB.nil _ _⟩, ⟨Prs.none_ w, InB.nil _ _⟩, hl, Bls.none_ _ _ _ _⟩
theorem glos_blo {N M : Nat} {S : Nat → Prop} {w : World} {vK : Value} {l : List Blo} (hl : Bls S N M w vK l) :
    BloK N M S w [.int .i64 13, .int .i64 0, .string (bs kGlos), .string (bs []), .string (bs []), .string (bs []), .string (bs []), .slice none 0 0, .slice none 0 0, .slice none 0 0, vK] (bloG l) :=
  ⟨_, _, _, _, rfl, ⟨Strs.none_ w, InB.nil _ _⟩, ⟨Prs.none_ w, InB.nil _ _⟩, Lns.none_ _ _ _, hl⟩
end Go.Proofs.Ythbnahagfojfbaa
