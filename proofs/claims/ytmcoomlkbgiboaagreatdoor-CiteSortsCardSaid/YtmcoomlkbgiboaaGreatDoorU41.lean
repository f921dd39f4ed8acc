/- awake of law32. Conditions: the listed variables. -/
import Derived.Test.YtmcoomlkbgiboaaGreatDoorU40
import Derived.Test.YtmcoomlkbgiboaaGreatDoorU19
import Derived.Test.YtmcoomlkbgiboaaGreatDoorU24
import Derived.Test.YtmcoomlkbgiboaaGreatDoorU29
import Derived.Test.YtmcoomlkbgiboaaGreatDoorU01
import Derived.Test.YtmcoomlkbgiboaaGreatDoorRows
import Derived.ProofKit
import Derived.OpenShut
import Derived.Carry
import Derived.ChangeSame
import Derived.Deep.DeepHandedRow
import Derived.Lib.LaidTab
import Derived.Shelf.Vars

set_option linter.all false
namespace Go.Proofs.YtmcoomlkbgiboaaGreatDoor
open Go.RowKit

def SrcWP (key fam yr:Bs) (w:World) (e:Ending) (w':World):Prop:=∃ g1 g2:Nat,e=.returned (srcV key kBook (.slice (some ⟨g1,0,none⟩) 1 1) (.slice none 0 0) (.slice (some ⟨g2,0,none⟩) 2 2))∧Perss w' (.slice (some ⟨g1,0,none⟩) 1 1) [(fam,[],[],[])]∧Prs w' (.slice (some ⟨g2,0,none⟩) 2 2) [([116,105,116,108,101],[84]),([121,101,97,114],yr)]∧Kept w w'
theorem pers_one (w:World) (fam:Bs):Perss (w.alloc (.cells #[.string (bs fam),.string (bs []),.string (bs []),.string (bs [])] 77)) (.slice (some ⟨w.heap.size,0,none⟩) 1 1) [(fam,[],[],[])]:=by
 have hb:=Blk.new w 77 #[.string (bs fam),.string (bs []),.string (bs []),.string (bs [])]
 refine ⟨_,_,rfl,Nat.le_refl _,fun _=>⟨_,0,rfl,hb.lt,fun j q hq=>?_⟩⟩
 cases j with
 | zero=>cases hq; exact ⟨hb.cell 0 _ rfl,hb.cell 1 _ rfl,hb.cell 2 _ rfl,hb.cell 3 _ rfl⟩
 | succ j=>simp at hq
set_option maxRecDepth 100000 in
set_option maxHeartbeats 3200000 in
theorem source32_any (key fam yr:Bs) (w:World):Calls Tryz.prog 29 #[.string (bs key),.string (bs fam),.string (bs yr)] w (SrcWP key fam yr w):=by
 have hk:∀ (w0:World) (n:Nat),w0.heap.size=n→Kept w w0→SrcWP key fam yr w (.returned (srcV key kBook (.slice (some ⟨n,0,none⟩) 1 1) (.slice none 0 0) (.slice (some ⟨n+1,0,none⟩) 2 2))) ((w0.alloc (.cells #[.string (bs fam),.string (bs []),.string (bs []),.string (bs [])] 77)).alloc (.cells #[.string (bs [116,105,116,108,101]),.string (bs [84]),.string (bs [121,101,97,114]),.string (bs yr)] 62)):=by
  intro w0 n hn hk
  have b1:=(pers_one w0 fam).kept (kept_alloc _ (.cells #[.string (bs [116,105,116,108,101]),.string (bs [84]),.string (bs [121,101,97,114]),.string (bs yr)] 62))
  have b2:=prs_two (w0.alloc (.cells #[.string (bs fam),.string (bs []),.string (bs []),.string (bs [])] 77)) ([116,105,116,108,101],[84]) ([121,101,97,114],yr)
  rw [hn] at b1
  rw [World.size_alloc,hn] at b2
  exact ⟨n,n+1,rfl,b1,b2,(hk.trans (kept_alloc _ _)).trans (kept_alloc _ _)⟩
 have HK:=Lib.hid hk
 clear hk
 have e0:(w.alloc (.cells #[.string (bs key),.string (bs kBook),.slice (some ⟨w.heap.size+1,0,none⟩) 1 1,.slice none 0 0,.slice (some ⟨w.heap.size+1+1,0,none⟩) 2 2] 50)).heap.size=w.heap.size+1:=by simp
 have HE0:=Lib.hid e0
 clear e0
 go_enter Tryz.func29,Tryz.ntmps29
 go_wp2_with fail
 refine bodyPost_ret (v:=srcV key kBook (.slice (some ⟨w.heap.size+1,0,none⟩) 1 1) (.slice none 0 0) (.slice (some ⟨w.heap.size+1+1,0,none⟩) 2 2)) ?_ rfl (HK.out _ (w.heap.size+1) HE0.out (kept_alloc w _))
 simp [results,Tryz.results29,go_sem,srcV,kBook]
theorem small_date:SmallY dateY:=by
 refine ⟨by decide,by decide,by decide,by decide,by decide,by decide,by decide,by decide,fun p hp=>?_⟩
 have h:p∈dateYE:=hp
 simp only [dateYE,List.mem_cons,List.not_mem_nil,or_false] at h
 rcases h with rfl | rfl <;> exact ⟨by decide,by decide⟩
theorem small_num:SmallY numY:=by
 refine ⟨by decide,by decide,by decide,by decide,by decide,by decide,by decide,by decide,fun p hp=>?_⟩
 have h:p∈numYE:=hp
 simp only [numYE,List.mem_cons,List.not_mem_nil,or_false] at h
 rcases h with rfl | rfl <;> exact ⟨by decide,by decide⟩
/-- The document of the example. -/
def awI:Inl:=.mk 13 [] [] [] [] [] [] [] [⟨[97],[],[44,32,112,46,32,51],false⟩] []
def awB:Blo:=.mk 1 0 [] [] [] [] [] [] [] [awI] []
theorem awk_keys:keysD [awB]=[[97]]:=by decide +kernel
theorem awk_ok:okBL [awB]:=by
 refine ⟨⟨?_,⟨⟨?_,trivial⟩,trivial⟩,trivial⟩,trivial⟩
 all_goals decide
theorem awk_inls:inlsL [awB]=[awI]:=rfl
theorem awk_b1:(inlsL [awB]).length≤1000000:=by rw [awk_inls]; simp
theorem awk_b2:∀ x∈inlsL [awB],x.cits.length≤1000000:=fun x hx=>by
 rw [awk_inls] at hx
 rcases List.mem_singleton.1 hx with rfl
 show ([⟨[97],[],[44,32,112,46,32,51],false⟩]:List Cit).length≤_
 simp
theorem awk_b3:((inlsL [awB]).flatMap citKeys).length≤1000000:=by rw [awk_inls]; decide +kernel
theorem one_rowZ {α:Type} {S:Nat→Prop} {k:Nat} {R:List Value→α→Prop} {w:World} {g:Nat} {t:TypeId} {cs:List Value} {x:α} (h:Blk w g t cs.toArray) (hk:cs.length=k) (hS:S g) (hR:R cs x):RowR S k R w (.slice (some ⟨g,0,none⟩) 1 1) [x]:=by
 refine ⟨_,1,rfl,Nat.le_refl _,fun _=>⟨g,0,rfl,h.lt,hS,fun j y hy=>?_⟩⟩
 cases j with
 | zero =>
  cases hy
  refine ⟨cs,hk,fun i u hu=>?_,hR⟩
  have e:=h.cell i u (by rw [List.getElem?_toArray]; exact hu)
  rwa [show (0:Nat)+0 * k+i=i from by omega]
 | succ j=>simp at hy
theorem awB_new {w:World} {C I B:Nat} (hc:Blk w C 68 #[.string (bs [97]),.string (bs []),.string (bs [44,32,112,46,32,51]),.bool false])
  (hi:Blk w I 71 #[.int .i64 13,.string (bs []),.string (bs []),.string (bs []),.string (bs []),.slice none 0 0,.slice none 0 0,.slice none 0 0,.slice (some ⟨C,0,none⟩) 1 1,.slice none 0 0])
  (hb:Blk w B 59 #[.int .i64 1,.int .i64 0,.string (bs []),.string (bs []),.string (bs []),.string (bs []),.string (bs []),.slice none 0 0,.slice none 0 0,.slice (some ⟨I,0,none⟩) 1 1,.slice none 0 0]) :
  Bls (fun g=>g<w.heap.size) 2 1 w (.slice (some ⟨B,0,none⟩) 1 1) [awB]:=by
 have h1:Cits (fun g=>g<w.heap.size) w (.slice (some ⟨C,0,none⟩) 1 1) [⟨[97],[],[44,32,112,46,32,51],false⟩]:=one_rowZ (cs:=[.string (bs [97]),.string (bs []),.string (bs [44,32,112,46,32,51]),.bool false]) hc rfl hc.lt rfl
 have h2:Lns (fun g=>g<w.heap.size) 2 w (.slice (some ⟨I,0,none⟩) 1 1) [awI]:=one_rowZ (k:=10) (cs:=[.int .i64 13,.string (bs []),.string (bs []),.string (bs []),.string (bs []),.slice none 0 0,.slice none 0 0,.slice none 0 0,.slice (some ⟨C,0,none⟩) 1 1,.slice none 0 0]) hi rfl hi.lt ⟨_,_,_,_,_,rfl,⟨Strs.none_ w,InB.nil _ _⟩,⟨Prs.none_ w,InB.nil _ _⟩,⟨Strs.none_ w,InB.nil _ _⟩,h1,Lns.none_ _ _ _⟩
 exact one_rowZ (k:=11) (cs:=[.int .i64 1,.int .i64 0,.string (bs []),.string (bs []),.string (bs []),.string (bs []),.string (bs []),.slice none 0 0,.slice none 0 0,.slice (some ⟨I,0,none⟩) 1 1,.slice none 0 0]) hb rfl hb.lt ⟨_,_,_,_,rfl,⟨Strs.none_ w,InB.nil _ _⟩,⟨Prs.none_ w,InB.nil _ _⟩,h2,Bls.none_ _ _ _ _⟩
theorem srcs_two {w:World} {g:Nat} {t:TypeId} {k1 f1 y1 k2 f2 y2:Bs} {vA1 vF1 vA2 vF2:Value} (h:Blk w g t #[.string (bs k1),.string (bs kBook),vA1,.slice none 0 0,vF1,.string (bs k2),.string (bs kBook),vA2,.slice none 0 0,vF2])
  (a1:Perss w vA1 [(f1,[],[],[])]) (p1:Prs w vF1 [([116,105,116,108,101],[84]),([121,101,97,114],y1)]) (a2:Perss w vA2 [(f2,[],[],[])]) (p2:Prs w vF2 [([116,105,116,108,101],[84]),([121,101,97,114],y2)]) :
  Srcs w (.slice (some ⟨g,0,none⟩) 2 2) [srcW k1 f1 y1,srcW k2 f2 y2]:=by
 refine ⟨_,2,rfl,Nat.le_refl _,fun _=>⟨g,0,rfl,h.lt,fun j s hs=>?_⟩⟩
 match j,hs with
 | 0,hs=>cases hs; exact ⟨vA1,_,vF1,h.cell 0 _ rfl,h.cell 1 _ rfl,h.cell 2 _ rfl,h.cell 3 _ rfl,h.cell 4 _ rfl,a1,Perss.none_ w,p1⟩
 | 1,hs=>cases hs; exact ⟨vA2,_,vF2,h.cell 5 _ rfl,h.cell 6 _ rfl,h.cell 7 _ rfl,h.cell 8 _ rfl,h.cell 9 _ rfl,a2,Perss.none_ w,p2⟩
 | n+2,hs=>cases hs
theorem doc_newA (w:World) (n:Nat) (hn:w.heap.size=n) :
  Kept w ((((w.alloc (.cells #[.string (bs [97]),.string (bs []),.string (bs [44,32,112,46,32,51]),.bool false] 68)).alloc (.cells #[.int .i64 13,.string (bs []),.string (bs []),.string (bs []),.string (bs []),.slice none 0 0,.slice none 0 0,.slice none 0 0,.slice (some ⟨n,0,none⟩) 1 1,.slice none 0 0] 71)).alloc (.cells #[.int .i64 1,.int .i64 0,.string (bs []),.string (bs []),.string (bs []),.string (bs []),.string (bs []),.slice none 0 0,.slice none 0 0,.slice (some ⟨n+1,0,none⟩) 1 1,.slice none 0 0] 59)).alloc (.cells #[.slice none 0 0,.slice (some ⟨n+1+1,0,none⟩) 1 1] 25)) ∧
  Blk ((((w.alloc (.cells #[.string (bs [97]),.string (bs []),.string (bs [44,32,112,46,32,51]),.bool false] 68)).alloc (.cells #[.int .i64 13,.string (bs []),.string (bs []),.string (bs []),.string (bs []),.slice none 0 0,.slice none 0 0,.slice none 0 0,.slice (some ⟨n,0,none⟩) 1 1,.slice none 0 0] 71)).alloc (.cells #[.int .i64 1,.int .i64 0,.string (bs []),.string (bs []),.string (bs []),.string (bs []),.string (bs []),.slice none 0 0,.slice none 0 0,.slice (some ⟨n+1,0,none⟩) 1 1,.slice none 0 0] 59)).alloc (.cells #[.slice none 0 0,.slice (some ⟨n+1+1,0,none⟩) 1 1] 25)) (n+1+1+1) 25 #[.slice none 0 0,.slice (some ⟨n+1+1,0,none⟩) 1 1] ∧
  Bls (fun g=>g<((((w.alloc (.cells #[.string (bs [97]),.string (bs []),.string (bs [44,32,112,46,32,51]),.bool false] 68)).alloc (.cells #[.int .i64 13,.string (bs []),.string (bs []),.string (bs []),.string (bs []),.slice none 0 0,.slice none 0 0,.slice none 0 0,.slice (some ⟨n,0,none⟩) 1 1,.slice none 0 0] 71)).alloc (.cells #[.int .i64 1,.int .i64 0,.string (bs []),.string (bs []),.string (bs []),.string (bs []),.string (bs []),.slice none 0 0,.slice none 0 0,.slice (some ⟨n+1,0,none⟩) 1 1,.slice none 0 0] 59)).alloc (.cells #[.slice none 0 0,.slice (some ⟨n+1+1,0,none⟩) 1 1] 25)).heap.size) 2 1 ((((w.alloc (.cells #[.string (bs [97]),.string (bs []),.string (bs [44,32,112,46,32,51]),.bool false] 68)).alloc (.cells #[.int .i64 13,.string (bs []),.string (bs []),.string (bs []),.string (bs []),.slice none 0 0,.slice none 0 0,.slice none 0 0,.slice (some ⟨n,0,none⟩) 1 1,.slice none 0 0] 71)).alloc (.cells #[.int .i64 1,.int .i64 0,.string (bs []),.string (bs []),.string (bs []),.string (bs []),.string (bs []),.slice none 0 0,.slice none 0 0,.slice (some ⟨n+1,0,none⟩) 1 1,.slice none 0 0] 59)).alloc (.cells #[.slice none 0 0,.slice (some ⟨n+1+1,0,none⟩) 1 1] 25)) (.slice (some ⟨n+1+1,0,none⟩) 1 1) [awB]:=by
 have b1:=Blk.new w 68 #[.string (bs [97]),.string (bs []),.string (bs [44,32,112,46,32,51]),.bool false]
 rw [hn] at b1
 obtain ⟨w1,hw1⟩:∃ x,w.alloc (.cells #[.string (bs [97]),.string (bs []),.string (bs [44,32,112,46,32,51]),.bool false] 68)=x:=⟨_,rfl⟩
 have k1:Kept w w1:=hw1 ▸ kept_alloc w _
 have n1:w1.heap.size=n+1:=by rw [← hw1,World.size_alloc,hn]
 rw [hw1] at b1 ⊢
 have b2:=Blk.new w1 71 #[.int .i64 13,.string (bs []),.string (bs []),.string (bs []),.string (bs []),.slice none 0 0,.slice none 0 0,.slice none 0 0,.slice (some ⟨n,0,none⟩) 1 1,.slice none 0 0]
 rw [n1] at b2
 obtain ⟨w2,hw2⟩:∃ x,w1.alloc (.cells #[.int .i64 13,.string (bs []),.string (bs []),.string (bs []),.string (bs []),.slice none 0 0,.slice none 0 0,.slice none 0 0,.slice (some ⟨n,0,none⟩) 1 1,.slice none 0 0] 71)=x:=⟨_,rfl⟩
 have k2:Kept w1 w2:=hw2 ▸ kept_alloc w1 _
 have n2:w2.heap.size=n+1+1:=by rw [← hw2,World.size_alloc,n1]
 rw [hw2] at b2 ⊢
 have b3:=Blk.new w2 59 #[.int .i64 1,.int .i64 0,.string (bs []),.string (bs []),.string (bs []),.string (bs []),.string (bs []),.slice none 0 0,.slice none 0 0,.slice (some ⟨n+1,0,none⟩) 1 1,.slice none 0 0]
 rw [n2] at b3
 obtain ⟨w3,hw3⟩:∃ x,w2.alloc (.cells #[.int .i64 1,.int .i64 0,.string (bs []),.string (bs []),.string (bs []),.string (bs []),.string (bs []),.slice none 0 0,.slice none 0 0,.slice (some ⟨n+1,0,none⟩) 1 1,.slice none 0 0] 59)=x:=⟨_,rfl⟩
 have k3:Kept w2 w3:=hw3 ▸ kept_alloc w2 _
 have n3:w3.heap.size=n+1+1+1:=by rw [← hw3,World.size_alloc,n2]
 rw [hw3] at b3 ⊢
 have b4:=Blk.new w3 25 #[.slice none 0 0,.slice (some ⟨n+1+1,0,none⟩) 1 1]
 rw [n3] at b4
 have k4:Kept w3 (w3.alloc (.cells #[.slice none 0 0,.slice (some ⟨n+1+1,0,none⟩) 1 1] 25)):=kept_alloc w3 _
 exact ⟨((k1.trans k2).trans k3).trans k4,b4,awB_new (((b1.kept k2).kept k3).kept k4) ((b2.kept k3).kept k4) (b3.kept k4)⟩
set_option maxRecDepth 100000 in
set_option maxHeartbeats 12800000 in
theorem awake32_any (w:World) (hen:EnvC w):Calls Tryz.prog 10 #[] w fun e w'=>e=.returned (.bool true)∧Kept w w':=by
 have HEN:=Lib.hid hen
 clear hen
 have HSR:=Lib.hid source32_any
 unfold SrcWP srcV at HSR
 have HFIN:Hid (∀ w',Kept w w'→(Ending.returned (.bool true)=Ending.returned (.bool true))∧Kept w w'):=fun w' h=>⟨rfl,h⟩
 have HB1:=Lib.hid (sbuiltin_any [97,117,116,104,111,114,45,100,97,116,101] w)
 rw [blt_date] at HB1
 unfold StyP at HB1
 simp only [Option.getD_some,Option.isSome_some] at HB1
 have HB2:=Lib.hid (fun w=>sbuiltin_any [110,117,109,101,114,105,99] w)
 simp only [blt_num] at HB2
 unfold StyP at HB2
 simp only [Option.getD_some,Option.isSome_some] at HB2
 obtain ⟨y1,HY1⟩:∃ y,Hid (dateY=y):=⟨_,rfl⟩
 obtain ⟨y2,HY2⟩:∃ y,Hid (numY=y):=⟨_,rfl⟩
 rw [HY1.out] at HB1
 simp only [HY2.out] at HB2
 unfold styV styCells at HB1 HB2
 have HSU:Hid (∀ v vE w',EnvC w'→Srcs w' v [srA,srB]→Prs w' vE y1.entries→Calls Tryz.prog 18 #[v,styV vE y1,.string (bs [101,110])] w' (SufPo (0,[[97],[98]]) w')):=fun v vE w' h1 h2 h3=>by
  rw [← HY1.out] at h3 ⊢
  have h:=cisuf_any v vE [srA,srB] dateY kEn w' h1 h2 (by simp) (fun s hs=>by
   simp only [List.mem_cons,List.not_mem_nil,or_false] at hs
   rcases hs with rfl | rfl
   ·exact awk_fitA
   ·exact awk_fitB) h3 small_date (by decide)
  have e:sufR dateY kEn [srA,srB]=(0,[[97],[98]]):=by
   unfold sufR
   rw [if_pos date_sty,if_neg (by decide),awk_suf]
   simp only [List.map_cons,List.map_nil,letL_one,letL_two]
  rw [e] at h
  exact h
 have HFI:Hid (∀ vL vE vB w',EnvC w'→Srcs w' vL [srA,srB]→Prs w' vE y2.entries→Bls (fun g=>g<w'.heap.size) 2 1 w' vB [awB]→Calls Tryz.prog 25 #[.agg #[.slice none 0 0,vB],vL,styV vE y2,.string (bs [101,110])] w' (FiOne [91,49,44,32,112,46,32,51,93] w')):=fun vL vE vB w' h1 h2 h3 h4=>by
  rw [← HY2.out] at h3 ⊢
  have h:=cifi_one 1 (.slice none 0 0) vB vL vE [] [srA,srB] srA numY kEn [97] [32,112,46,32,51] [] [] [] [] [] [] [] [] [] 0 [] [] [] [] [] [] w' h1 (Prs.none_ w') (by simp) h4 awk_ok awk_keys awk_b1 awk_b2 awk_b3 h2 (by simp) (fun s hs=>by
   simp only [List.mem_cons,List.not_mem_nil,or_false] at hs
   rcases hs with rfl | rfl
   ·exact awk_fitA
   ·exact awk_fitB) awk_ck awk_find h3 small_num (by decide) num_sty (by decide) (by simp) (by rw [awk_fl]; simp) (by rw [awk_ct]; decide) (by simp) (by simp)
  rw [awk_ct] at h
  exact h
 have HKY:Hid (∀ vB w',Bls (fun g=>g<w'.heap.size) 2 1 w' vB [awB]→Calls Tryz.prog 12 #[.agg #[.slice none 0 0,vB]] w' (CiKP [[97]] w')):=fun vB w' h=>by
  have h2:=cikeys_any 2 1 none 0 0 vB [awB] w' h (by simp) awk_ok awk_b1 awk_b2 awk_b3
  rw [awk_keys] at h2
  exact h2
 unfold SufPo at HSU
 unfold FiOne at HFI
 unfold CiKP at HKY
 unfold styV styCells at HSU HFI
 go_enter Tryz.func10,Tryz.ntmps10
 go_wp2_with fail
 refine HB1.out.mono ?_
 rintro e w1 ⟨vE1,rfl,hp1,hk1⟩
 obtain ⟨aE1,cE1,rfl,lE1⟩:=hp1.form
 have HK1:=Lib.hid hk1
 have HP1:=Lib.hid hp1
 clear hk1 hp1 HB1
 go_wp2_with fail
 refine (HB2.out _).mono ?_
 rintro e w2 ⟨vE2,rfl,hp2,hk2⟩
 obtain ⟨aE2,cE2,rfl,lE2⟩:=hp2.form
 have HY1B:=Lib.hid ((Blk.new w1 33 #[.string (bs y1.name),.bool y1.numeric,.string (bs y1.sort),.string (bs y1.cite),.string (bs y1.bare),.string (bs y1.between),.string (bs y1.begin_),.string (bs y1.end_),.int .i64 y1.most,.slice aE1 y1.entries.length cE1]).kept hk2)
 have HP1:=Lib.hid ((HP1.out.kept (kept_alloc w1 _)).kept hk2)
 have HP2:=Lib.hid hp2
 have HK2:=Lib.hid ((HK1.out.trans (kept_alloc w1 _)).trans hk2)
 generalize w1.heap.size=B1 at *
 clear HB2 HK1 hp2 hk2
 go_wp2_with fail
 refine (HSR.out [97] [78,103] [50,48,48,49] _).mono ?_
 rintro e w3 ⟨gA1,gF1,rfl,ha1,hf1,hk3⟩
 have HY2B:=Lib.hid ((Blk.new w2 33 #[.string (bs y2.name),.bool y2.numeric,.string (bs y2.sort),.string (bs y2.cite),.string (bs y2.bare),.string (bs y2.between),.string (bs y2.begin_),.string (bs y2.end_),.int .i64 y2.most,.slice aE2 y2.entries.length cE2]).kept hk3)
 have hk23:=(kept_alloc w2 _).trans hk3
 have HK3:=Lib.hid (HK2.out.trans hk23)
 have HP1:=Lib.hid (HP1.out.kept hk23)
 have HP2:=Lib.hid (HP2.out.kept hk23)
 have HY1B:=Lib.hid (HY1B.out.kept hk23)
 have HA1:=Lib.hid ha1
 have HF1:=Lib.hid hf1
 generalize w2.heap.size=B2 at *
 clear ha1 hf1 hk3 hk23 HK2
 go_wp2_with fail
 refine (HSR.out [98] [78,103] [50,48,48,49] _).mono ?_
 rintro e w4 ⟨gA2,gF2,rfl,ha2,hf2,hk4⟩
 have HK4:=Lib.hid (HK3.out.trans hk4)
 have HP1:=Lib.hid (HP1.out.kept hk4)
 have HP2:=Lib.hid (HP2.out.kept hk4)
 have HY1B:=Lib.hid (HY1B.out.kept hk4)
 have HY2B:=Lib.hid (HY2B.out.kept hk4)
 have HA1:=Lib.hid (HA1.out.kept hk4)
 have HF1:=Lib.hid (HF1.out.kept hk4)
 have HA2:=Lib.hid ha2
 have HF2:=Lib.hid hf2
 clear ha2 hf2 hk4 HK3 HSR
 have hka:=kept_alloc w4 (.cells #[.string (bs [97]),.string (bs kBook),.slice (some ⟨gA1,0,none⟩) 1 1,.slice none 0 0,.slice (some ⟨gF1,0,none⟩) 2 2,.string (bs [98]),.string (bs kBook),.slice (some ⟨gA2,0,none⟩) 1 1,.slice none 0 0,.slice (some ⟨gF2,0,none⟩) 2 2] 50)
 have hbl:=Blk.new w4 50 #[.string (bs [97]),.string (bs kBook),.slice (some ⟨gA1,0,none⟩) 1 1,.slice none 0 0,.slice (some ⟨gF1,0,none⟩) 2 2,.string (bs [98]),.string (bs kBook),.slice (some ⟨gA2,0,none⟩) 1 1,.slice none 0 0,.slice (some ⟨gF2,0,none⟩) 2 2]
 have HSS:=Lib.hid (srcs_two hbl (HA1.out.kept hka) (HF1.out.kept hka) (HA2.out.kept hka) (HF2.out.kept hka))
 have HY1C:=Lib.hid (HY1B.out.kept hka)
 have d0:=HY1C.out.cell 0 _ rfl
 have d1:=HY1C.out.cell 1 _ rfl
 have d2:=HY1C.out.cell 2 _ rfl
 have d3:=HY1C.out.cell 3 _ rfl
 have d4:=HY1C.out.cell 4 _ rfl
 have d5:=HY1C.out.cell 5 _ rfl
 have d6:=HY1C.out.cell 6 _ rfl
 have d7:=HY1C.out.cell 7 _ rfl
 have d8:=HY1C.out.cell 8 _ rfl
 have d9:=HY1C.out.cell 9 _ rfl
 have HKA:=Lib.hid hka
 clear hka hbl HA1 HF1 HA2 HF2
 go_wp2_with fail
 refine (HSU.out _ _ _ (HEN.out.kept (HK4.out.trans HKA.out)) HSS.out (HP1.out.kept HKA.out)).mono ?_
 rintro e w5 ⟨vS,rfl,hs5,hk5⟩
 obtain ⟨aS,cS,rfl,lS⟩:=hs5.form
 have hk45:=HKA.out.trans hk5
 have HK5:=Lib.hid (HK4.out.trans hk45)
 have HP2:=Lib.hid (HP2.out.kept hk45)
 have HY2B:=Lib.hid (HY2B.out.kept hk45)
 have HSS:=Lib.hid (HSS.out.kept hk5)
 have HST:=Lib.hid hs5
 generalize w4.heap.size=L at *
 clear HSU HP1 HY1B HY1C HKA HK4 hs5 hk5 hk45 d0 d1 d2 d3 d4 d5 d6 d7 d8 d9
 obtain ⟨hkd,hdb,hdl⟩:=doc_newA w5 _ rfl
 have HKD:=Lib.hid hkd
 have HDB:=Lib.hid hdb
 have HDL:=Lib.hid hdl
 have HY2C:=Lib.hid (HY2B.out.kept hkd)
 have d0:=HY2C.out.cell 0 _ rfl
 have d1:=HY2C.out.cell 1 _ rfl
 have d2:=HY2C.out.cell 2 _ rfl
 have d3:=HY2C.out.cell 3 _ rfl
 have d4:=HY2C.out.cell 4 _ rfl
 have d5:=HY2C.out.cell 5 _ rfl
 have d6:=HY2C.out.cell 6 _ rfl
 have d7:=HY2C.out.cell 7 _ rfl
 have d8:=HY2C.out.cell 8 _ rfl
 have d9:=HY2C.out.cell 9 _ rfl
 clear hkd hdb hdl
 go_wp2_with fail
 refine (HFI.out _ _ _ _ (HEN.out.kept (HK5.out.trans HKD.out)) (HSS.out.kept HKD.out) (HP2.out.kept HKD.out) HDL.out).mono ?_
 rintro e w6 ⟨aM6,nM6,cM6,vB6,b6,rfl,hb6,hln6,hk6⟩
 obtain ⟨aB6,cB6,hvb6,lB6⟩:=hb6.form
 have hvb6':vB6=.slice aB6 1 cB6:=hvb6
 subst hvb6'
 have HB6:=Lib.hid hb6
 have hk56:=HKD.out.trans hk6
 have HK6:=Lib.hid (HK5.out.trans hk56)
 have HST:=Lib.hid (HST.out.kept hk56)
 have HDB:=Lib.hid (HDB.out.kept hk6)
 have HDL:=Lib.hid ((HDL.out.kept hk6).mono (fun g _ q=>Nat.lt_of_lt_of_le q hk6.size))
 have HLN6:=Lib.hid hln6
 generalize w5.heap.size=D at *
 have hka:=kept_alloc w6 (.cells #[.slice aM6 nM6 cM6,.slice aB6 1 cB6] 25)
 have hdc:=HDB.out.kept hka
 have d0:=hdc.cell 0 _ rfl
 have d1:=hdc.cell 1 _ rfl
 have HKA:=Lib.hid hka
 clear hdc hka hk6 hk56 hb6 hln6 HK5 HKD HSS HP2 HY2B HFI hvb6 d2 d3 d4 d5 d6 d7 d8 d9
 go_wp2_with fail
 refine (HKY.out _ _ ((HDL.out.kept HKA.out).mono (fun g _ q=>Nat.lt_of_lt_of_le q HKA.out.size))).mono ?_
 rintro e w7 ⟨vK7,rfl,hs7,hk7⟩
 obtain ⟨aK7,cK7,hvk7,hlK,hcK⟩:=hs7
 have hlK':1≤cK7:=hlK
 have hvk7':vK7=.slice aK7 1 cK7:=hvk7
 subst hvk7'
 obtain ⟨gK,oK,rfl,hgK,hcK⟩:=hcK (by simp)
 have HSK:Hid (Strs w7 (.slice (some ⟨gK,oK,none⟩) 1 cK7) [[97]]):=⟨_,cK7,rfl,by omega,fun _=>⟨gK,oK,rfl,hgK,hcK⟩⟩
 have hk67:=HKA.out.trans hk7
 obtain ⟨aS',cS',hvS,-,hcS⟩:=HST.out.kept hk67
 obtain ⟨rfl,-,rfl⟩:=Value.slice.inj hvS
 obtain ⟨gS,oS,rfl,-,hcS⟩:=hcS (by simp)
 have ss0:=hcS 0 _ rfl
 rw [Nat.add_zero] at ss0
 have ss1:=hcS 1 _ rfl
 have hb7:=HB6.out.kept hk67
 obtain ⟨g6,o6,vC6,vP6,vL6,vK6,rfl,-,-,-,-,-,hc6,-,-,hL6,-⟩:=Bls.at_ hb7 0 b6 rfl
 obtain ⟨aL6,cL6,rfl,lL6⟩:=hL6.form
 have hd7:=(Blk.new w6 25 #[.slice aM6 nM6 cM6,.slice (some ⟨g6,o6,none⟩) 1 cB6]).kept hk7
 have HPLN:Hid (∀ w',Kept w7 w'→Calls Tryz.prog 30 #[.slice aL6 b6.line.length cL6] w' fun e w''=>e=.returned (.string (bs [91,49,44,32,112,46,32,51,93]))∧Kept w' w''):=fun w' k=>by
  have h:=rplain4_any 2 b6.line (.slice aL6 b6.line.length cL6) w' (hL6.kept k) (by have:=HLN6.out.2.1; omega) (fun x hx=>by
   have e:=HLN6.out.2.2 x hx
   rw [e]
   exact ⟨by simp,fun y hy=>absurd hy (by simp)⟩) (by rw [HLN6.out.1]; decide)
  rw [HLN6.out.1] at h
  exact h
 have HL7:=Lib.hid hL6
 have HK7:=Lib.hid (HK6.out.trans hk67)
 have dd0:=hd7.cell 0 _ rfl
 have dd1:=hd7.cell 1 _ rfl
 have bb9:=hc6 9 _ rfl
 rw [Nat.zero_mul,Nat.add_zero] at bb9
 clear hcK hcS hb7 hc6 hL6 hd7 hvS hvk7 d0 d1 HST HB6 HDB HDL HK6 HKY
 generalize w6.heap.size=B9 at *
 clear hk67 hk7 HKA hgK hlK hlK'
 go_wp2_with fail
 refine (HPLN.out _ (Kept.refl _)).mono ?_
 rintro e w8 ⟨rfl,hk8⟩
 have kk0:w8.cell? ⟨gK,oK,none⟩=some (.string (bs [97])):=by
  obtain ⟨a,c,hv,-,hcK⟩:=HSK.out.kept hk8
  obtain ⟨rfl,-,rfl⟩:=Value.slice.inj hv
  obtain ⟨g,o,hgo,-,hcK⟩:=hcK (by simp)
  cases hgo
  have h:=hcK 0 _ rfl
  rwa [Nat.add_zero] at h
 have HF8:=Lib.hid (HFIN.out w8 (HK7.out.trans hk8))
 clear ss0 ss1 dd0 dd1 bb9 HPLN HSK HK7 hk8 HL7
 go_wp2_with fail
 refine bodyPost_ret (v:=.bool true) ?_ rfl ⟨rfl,HF8.out.2⟩
 simp [results,Tryz.results10,go_sem]
end Go.Proofs.YtmcoomlkbgiboaaGreatDoor

/- A row of sources that a call owns, as a slice. No condition. -/
set_option linter.all false
namespace Go.Proofs.YtmcoomlkbgiboaaGreatDoor
open Go.RowKit

theorem Srcs.row2 {S S':Nat→Prop} {w:World} {v:Value} {xs:List SrcT} (h:RowR S 5 (SrcK S' w) w v xs):Srcs w v xs:=by
 obtain ⟨a,c,hv,hc,h3⟩:=h
 refine ⟨a,c,hv,hc,fun q=>?_⟩
 obtain ⟨g,o,ha,hg,-,hcell⟩:=h3 q
 refine ⟨g,o,ha,hg,fun j s hs=>?_⟩
 obtain ⟨cs,hl,hcs,vA,vE,vF,rfl,⟨pA,-⟩,⟨pE,-⟩,pF,-⟩:=hcell j s hs
 exact ⟨vA,vE,vF,(by have:=hcs 0 _ rfl; rwa [Nat.add_zero] at this),hcs 1 _ rfl,hcs 2 _ rfl,hcs 3 _ rfl,hcs 4 _ rfl,pA,pE,pF⟩
theorem Srcs.outO {A:Nat→Prop} {base:Nat} {w:World} {v:Value} {xs:List SrcT} (h:OutG SrcK 5 A base 50 w v xs):Srcs w v xs :=
 Srcs.row2 (OutG.row (S:=fun _=>True) srcK (h.mono srcK (fun _ _ _=>trivial)) (fun _ _ h=>h) (fun _ _=>trivial))
end Go.Proofs.YtmcoomlkbgiboaaGreatDoor

/- The law CiteSorts. Conditions: lengths that a machine can tell; the listed variables. -/
set_option linter.all false
namespace Go.Proofs.YtmcoomlkbgiboaaGreatDoor
open Go.RowKit

theorem Srcs.one {w:World} {a:Option Addr} {n c:Nat} {ss:List SrcT} (h:Srcs w (.slice a n c) ss) (j:Nat) (s:SrcT) (hq:ss[j]? = some s) (c':Nat) (hc:1≤c') :
  ∃ g o,a=some ⟨g,o,none⟩∧Srcs w (.slice (some ⟨g,o+j * 5,none⟩) 1 c') [s]:=by
 obtain ⟨g,o,vA,vE,vF,ha,hg,d0,d1,d2,d3,d4,p1,p2,p3⟩:=h.at_ j s hq
 refine ⟨g,o,ha,_,c',rfl,hc,fun _=>⟨g,o+j * 5,rfl,hg,fun i x hx=>?_⟩⟩
 cases i with
 | zero =>
  cases hx
  refine ⟨vA,vE,vF,?_,?_,?_,?_,?_,p1,p2,p3⟩
  ·simpa using d0
  ·simpa using d1
  ·simpa using d2
  ·simpa using d3
  ·simpa using d4
 | succ i=>simp at hx
/-- How often a source stands in a row. -/
def cntS (x:SrcT) (l:List SrcT):Nat:=l.countP fun s=>decide (s=x)
theorem cntS_next {x s:SrcT} {l:List SrcT} {j:Nat} (h:l[j]? = some s):cntS x (l.take (j+1))=cntS x (l.take j)+if s=x then 1 else 0:=by
 unfold cntS
 rw [List.take_succ,h,List.countP_append]
 by_cases q:s=x <;> simp [q]
theorem cntS_le (x:SrcT) (l:List SrcT):cntS x l≤l.length:=List.countP_le_length
theorem cntS_perm {x:SrcT} {l l':List SrcT} (h:l.Perm l'):cntS x l=cntS x l':=h.countP_eq _
theorem one_dec (s x:SrcT):decide ([s]=[x])=decide (s=x):=by
 by_cases q:s=x <;> simp [q]
set_option maxRecDepth 100000 in
set_option maxHeartbeats 12800000 in
theorem lcisorts_any (l:List SrcT) (y:StyT) (v vE:Value) (lang:Bs) (w:World) (hen:EnvC w) (hv:Srcs w v l) (hE:Prs w vE y.entries) (hl:l.length≤140737488355328) (hfs:∀ s∈l,FitS s) (hfy:FitY y) :
  Calls Tryz.prog 7 #[v,styV vE y,.string (bs lang)] w fun e w'=>e=.returned (.bool true)∧Kept w w':=by
 have HFW:=Lib.hid (fun w' (k:Kept w w')=>few32_any l y v vE w' (hv.kept k) (hE.kept k) hl hfs hfy)
 unfold FewP at HFW
 have HAW:=Lib.hid (fun w' (k:Kept w w')=>awake32_any w' (hen.kept k))
 have HOR:=Lib.hid (fun l' v' w' (k:Kept w w') (h:Srcs w' v' l') (h1:l'.length≤19) (h2:∀ s∈l',FitL s) (h3:FewY y)=>ciord_any v' vE l' y lang w' (hen.kept k) h h1 h2 (hE.kept k) h3.small)
 unfold OrdP at HOR
 have HSO:=Lib.hid (fun v v' xs ys w' (h1:Srcs w' v xs) (h2:Srcs w' v' ys) (h3:xs.length≤19) (h4:ys.length≤19) (h5:∀ s∈xs,FitL s) (h6:∀ s∈ys,FitL s)=>sources32_any v v' xs ys w' h1 h2 (by omega) (by omega) (fun s hs=>by have:=h5 s hs; unfold FitL at this; omega) (fun s hs=>by have:=h6 s hs; unfold FitL at this; omega))
 obtain ⟨aE,cE,rfl,zE⟩:=hE.form
 obtain ⟨a,c,rfl,zV⟩:=(show ∃ a c,v=.slice a l.length c∧l.length≤c by obtain ⟨a,c,e,q,_⟩:=hv; exact ⟨a,c,e,q⟩)
 have HV:=Lib.hid hv
 have hka:=kept_alloc w (.cells (styCells (.slice aE y.entries.length cE) y) 33)
 have HY0:=Lib.hid (Blk.new w 33 (styCells (.slice aE y.entries.length cE) y))
 have HK0:=Lib.hid hka
 unfold styV at HFW HOR ⊢
 unfold styCells at HFW HOR HY0 HK0 ⊢
 clear hka hen hv hE hfs hfy
 go_enter Tryz.func7,Tryz.ntmps7
 go_wp2_with fail
 generalize w.alloc _=W0 at *
 obtain ⟨S,HSS⟩:∃ S,Hid (w.heap.size=S):=⟨_,rfl⟩
 rw [HSS.out] at HY0 ⊢
 refine (HFW.out W0 HK0.out).mono ?_
 rintro e w1 ⟨b,rfl,hb,hk1⟩
 have HK1:=Lib.hid (HK0.out.trans hk1)
 have HY1:=Lib.hid (HY0.out.kept hk1)
 clear hk1 HFW HY0 HK0
 cases b with
 | false =>
  go_wp2_with fail
  refine (HAW.out w1 HK1.out).mono ?_
  rintro e w2 ⟨rfl,hk2⟩
  have HK2:=Lib.hid (HK1.out.trans hk2)
  clear hk2
  go_wp2_with fail
  (try go_ret)
  exact ⟨rfl,HK2.out⟩
 | true =>
  obtain ⟨hl8,hfl,hfy⟩:=hb rfl
  have HFL:=Lib.hid hfl
  have HFY:=Lib.hid hfy
  clear hb hfl hfy
  have c0:=HY1.out.cell 0 _ rfl
  have c1:=HY1.out.cell 1 _ rfl
  have c2:=HY1.out.cell 2 _ rfl
  have c3:=HY1.out.cell 3 _ rfl
  have c4:=HY1.out.cell 4 _ rfl
  have c5:=HY1.out.cell 5 _ rfl
  have c6:=HY1.out.cell 6 _ rfl
  have c7:=HY1.out.cell 7 _ rfl
  have c8:=HY1.out.cell 8 _ rfl
  have c9:=HY1.out.cell 9 _ rfl
  go_wp2_with fail
  refine (HOR.out l _ w1 HK1.out (HV.out.kept HK1.out) (by omega) HFL.out HFY.out).mono ?_
  clear c0 c1 c2 c3 c4 c5 c6 c7 c8 c9
  by_cases hst:styE y=0
  ·have e1:ordR y lang l=(0,ordL (locC lang) (wsY y) l):=if_pos hst
   have e2:ordR y lang (ordL (locC lang) (wsY y) l)=(0,ordL (locC lang) (wsY y) l):=by
    unfold ordR; rw [if_pos hst,ordL_twice]
   have hpm:=ordL_perm (locC lang) (wsY y) l
   rw [e1]
   obtain ⟨O,HO⟩:∃ O,Hid (ordL (locC lang) (wsY y) l=O):=⟨_,rfl⟩
   rw [HO.out] at e2 hpm ⊢
   have HPM:=Lib.hid hpm
   have hol:O.length=l.length:=hpm.length_eq
   have HFO:Hid (∀ s∈O,FitL s):=fun s hs=>HFL.out s (HPM.out.mem_iff.1 hs)
   have HE2:=Lib.hid e2
   clear e1 e2 hpm HO
   rintro e w2 ⟨vO,rfl,ho,hk2⟩
   have hs2:=Srcs.outO ho
   have HK2:=Lib.hid (HK1.out.trans hk2)
   have HY2:=Lib.hid (HY1.out.kept hk2)
   have HS2:=Lib.hid hs2
   obtain ⟨aO,cO,rfl,zO⟩:=(show ∃ a c,vO=.slice a O.length c∧O.length≤c by obtain ⟨a,c,e,q,_⟩:=hs2; exact ⟨a,c,e,q⟩)
   rw [hol] at HS2 zO
   have c0:=HY2.out.cell 0 _ rfl
   have c1:=HY2.out.cell 1 _ rfl
   have c2:=HY2.out.cell 2 _ rfl
   have c3:=HY2.out.cell 3 _ rfl
   have c4:=HY2.out.cell 4 _ rfl
   have c5:=HY2.out.cell 5 _ rfl
   have c6:=HY2.out.cell 6 _ rfl
   have c7:=HY2.out.cell 7 _ rfl
   have c8:=HY2.out.cell 8 _ rfl
   have c9:=HY2.out.cell 9 _ rfl
   clear ho hk2 hs2 HK1 HY1
   simp only
   go_wp2_with fail
   refine (HOR.out O _ w2 HK2.out HS2.out (by omega) HFO.out HFY.out).mono ?_
   rw [HE2.out]
   rintro e w3 ⟨vO2,rfl,ho3,hk3⟩
   have hs3:=Srcs.outO ho3
   have HK3:=Lib.hid (HK2.out.trans hk3)
   have HS3:=Lib.hid hs3
   have HS23:=Lib.hid (HS2.out.kept hk3)
   obtain ⟨aP,cP,rfl,zP⟩:=(show ∃ a c,vO2=.slice a O.length c∧O.length≤c by obtain ⟨a,c,e,q,_⟩:=hs3; exact ⟨a,c,e,q⟩)
   rw [hol] at HS3 zP
   clear ho3 hk3 hs3 HK2 HY2 HS2 c0 c1 c2 c3 c4 c5 c6 c7 c8 c9 HOR HE2
   simp only
   go_wp2_with fail
   refine (HSO.out _ _ O O w3 HS23.out HS3.out (by omega) (by omega) HFO.out HFO.out).mono ?_
   rintro e w4 ⟨rfl,hk4⟩
   have HK4:=Lib.hid (HK3.out.trans hk4)
   have HS4:=Lib.hid (HS23.out.kept hk4)
   rw [show decide (O=O)=true from decide_eq_true rfl]
   clear hk4 HK3 HS3 HS23
   go_wp2_with fail
   go_loopw [11] (fun i wr=>∃ k:Nat,k≤l.length∧i=.int .i64 k∧Hid (Kept w4 wr)) (fun i _=>l.length - (intOf i).toNat)
   case atStart=>exact ⟨0,Nat.zero_le _,rfl,Kept.refl _⟩
   case round =>
    obtain ⟨k,hk,rfl,HKR⟩:=hrel
    by_cases hlt:k<l.length
    ·obtain ⟨x,hx⟩:∃ x,l[k]? = some x:=⟨_,List.getElem?_eq_getElem hlt⟩
     have HX:=Lib.hid hx
     clear hx
     go_wp2_with fail
     obtain ⟨wo,rfl⟩:∃ wo:World,wo=wr:=⟨_,rfl⟩
     go_loopw [12,13,14] (fun n m i wq=>∃ j:Nat,j≤l.length∧i=.int .i64 j∧n=.int .i64 (cntS x (l.take j))∧m=.int .i64 (cntS x (O.take j))∧Hid (Kept w4 wq)) (fun _ _ i _=>l.length - (intOf i).toNat)
     case atStart=>exact ⟨0,Nat.zero_le _,rfl,rfl,rfl,HKR.out⟩
     case round =>
      clear HKR
      obtain ⟨j,hj,rfl,rfl,rfl,HKQ⟩:=hrel
      by_cases hlt2:j<l.length
      ·obtain ⟨s,hs⟩:∃ s,l[j]? = some s:=⟨_,List.getElem?_eq_getElem hlt2⟩
       obtain ⟨t,ht⟩:∃ t,O[j]? = some t:=⟨_,List.getElem?_eq_getElem (by omega)⟩
       obtain ⟨g,o,rfl,-⟩:=Srcs.one (HV.out.kept (HK4.out.trans HKQ.out)) j s hs 1 (by omega)
       obtain ⟨gO,oO,rfl,-⟩:=Srcs.one (HS4.out.kept HKQ.out) j t ht 1 (by omega)
       have HT0:=Lib.hid ht
       have cOj:cO≠j:=by omega
       have a9:(j:Int)+1≤(cO:Int):=by omega
       have a10:((j+1:Nat):Int)≤(cO:Int):=by omega
       have HN1:=Lib.hid (cntS_next (x:=x) hs)
       have HN2:=Lib.hid (cntS_next (x:=x) ht)
       have HSJ:=Lib.hid (fun w' (k:Kept w4 w') c' (h:1≤c')=>Srcs.one (HV.out.kept (HK4.out.trans k)) j s hs c' h)
       have cj:c≠j:=by omega
       have ck:c≠k:=by omega
       have H1:Hid (Srcs wr (.slice (some ⟨g,o+j * 5,none⟩) 1 (c - j)) [s]):=by
        obtain ⟨g',o',e,h⟩:=HSJ.out wr HKQ.out (c - j) (by omega)
        cases e; exact h
       have H2:Hid (Srcs wr (.slice (some ⟨g,o+k * 5,none⟩) 1 (c - k)) [x]):=by
        obtain ⟨g',o',e,h⟩:=Srcs.one (HV.out.kept (HK4.out.trans HKQ.out)) k x HX.out (c - k) (by omega)
        cases e; exact h
       have k00:Kept wr wr.drew:=kept_drewN wr 1
       have a1:(0:Int)≤(j:Int):=by omega
       have a2:(0:Int)≤(j:Int)+1:=by omega
       have a3:(j:Int)+1≤(c:Int):=by omega
       have a4:((j:Int)+1).toNat=j+1:=by omega
       have a5:(j:Int)≤((j+1:Nat):Int):=by omega
       have a6:((j:Int)).toNat=j:=by omega
       have wj:IntKind.i64.wrap ((j:Int)+1)=((j+1:Nat):Int):=by rw [wrap_lenZ _ (by omega) (by omega)]; omega
       have wk:IntKind.i64.wrap ((k:Int)+1)=((k+1:Nat):Int):=by rw [wrap_lenZ _ (by omega) (by omega)]; omega
       have a7:(0:Int)≤((j+1:Nat):Int):=by omega
       have a8:((j+1:Nat):Int)≤(c:Int):=by omega
       have b7:(0:Int)≤((k+1:Nat):Int):=by omega
       have b8:((k+1:Nat):Int)≤(c:Int):=by omega
       have b1:(0:Int)≤(k:Int):=by omega
       have b2:(0:Int)≤(k:Int)+1:=by omega
       have b3:(k:Int)+1≤(c:Int):=by omega
       have b4:((k:Int)+1).toNat=k+1:=by omega
       have b5:(k:Int)≤((k+1:Nat):Int):=by omega
       have b6:((k:Int)).toNat=k:=by omega
       go_wp2_with fail
       go_region_held3 (fun w'=>Kept wr w')
        (assumption)
        (first | (go_at_call 17; refine (HSO.out _ _ [s] [x] _ (H1.out.kept k00) (H2.out.kept k00) (by simp) (by simp) (fun z hz=>by rw [List.mem_singleton.1 hz]; exact HFL.out s (List.mem_of_getElem? hs)) (fun z hz=>by rw [List.mem_singleton.1 hz]; exact HFL.out x (List.mem_of_getElem? HX.out))).mono ?_; rintro e wz ⟨rfl,hkz⟩; rw [one_dec]; have kz:Kept wr wz:=k00.trans hkz; clear hkz))
       all_goals
        have HKZ:=Lib.hid (HKQ.out.trans kz)
        have H3:Hid (Srcs wz (.slice (some ⟨gO,oO+j * 5,none⟩) 1 (cO - j)) [t]):=by
         obtain ⟨g',o',e,h⟩:=Srcs.one (HS4.out.kept HKZ.out) j t HT0.out (cO - j) (by omega)
         cases e; exact h
        have H4:Hid (Srcs wz (.slice (some ⟨g,o+k * 5,none⟩) 1 (c - k)) [x]):=H2.out.kept kz
        have k01:Kept wz wz.drew:=kept_drewN wz 1
        have hc1:cntS x (l.take j)≤8:=by have h1:=cntS_le x (l.take j); rw [List.length_take] at h1; omega
        have hc2:cntS x (O.take j)≤8:=by have h1:=cntS_le x (O.take j); rw [List.length_take] at h1; omega
        generalize cntS x (l.take j)=n1 at *
        generalize cntS x (O.take j)=n2 at *
        clear kz k00 H1 H2 HSJ
        by_cases hsx:s=x
        ·rw [show decide (s=x)=true from decide_eq_true hsx]
         go_wp2_with fail
         go_region_held3 (fun w'=>Kept wz w')
          (assumption)
          (first | (go_at_call 17; refine (HSO.out _ _ [t] [x] _ (H3.out.kept k01) (H4.out.kept k01) (by simp) (by simp) (fun z hz=>by rw [List.mem_singleton.1 hz]; exact HFO.out t (List.mem_of_getElem? HT0.out)) (fun z hz=>by rw [List.mem_singleton.1 hz]; exact HFL.out x (List.mem_of_getElem? HX.out))).mono ?_; rintro e wy ⟨rfl,hky⟩; rw [one_dec]; have ky:Kept wz wy:=k01.trans hky; clear hky))
         all_goals
          have HKY:=Lib.hid (HKZ.out.trans ky)
          clear ky k01 H3 H4
          by_cases htx:t=x
          ·rw [show decide (t=x)=true from decide_eq_true htx]
           go_wp2_with fail
           go_roundw
           case rel=>exact ⟨j+1,by omega,by go_num,by rw [HN1.out,if_pos hsx]; first | rfl | go_num | (congr 1),by rw [HN2.out,if_pos htx]; first | rfl | go_num | (congr 1),HKY.out⟩
           case measure=>simp [intOf]; omega
          ·rw [show decide (t=x)=false from decide_eq_false htx]
           go_wp2_with fail
           go_roundw
           case rel=>exact ⟨j+1,by omega,by go_num,by rw [HN1.out,if_pos hsx]; first | rfl | go_num | (congr 1),by rw [HN2.out,if_neg htx]; first | rfl | go_num | (congr 1),HKY.out⟩
           case measure=>simp [intOf]; omega
        ·rw [show decide (s=x)=false from decide_eq_false hsx]
         go_wp2_with fail
         go_region_held3 (fun w'=>Kept wz w')
          (assumption)
          (first | (go_at_call 17; refine (HSO.out _ _ [t] [x] _ (H3.out.kept k01) (H4.out.kept k01) (by simp) (by simp) (fun z hz=>by rw [List.mem_singleton.1 hz]; exact HFO.out t (List.mem_of_getElem? HT0.out)) (fun z hz=>by rw [List.mem_singleton.1 hz]; exact HFL.out x (List.mem_of_getElem? HX.out))).mono ?_; rintro e wy ⟨rfl,hky⟩; rw [one_dec]; have ky:Kept wz wy:=k01.trans hky; clear hky))
         all_goals
          have HKY:=Lib.hid (HKZ.out.trans ky)
          clear ky k01 H3 H4
          by_cases htx:t=x
          ·rw [show decide (t=x)=true from decide_eq_true htx]
           go_wp2_with fail
           go_roundw
           case rel=>exact ⟨j+1,by omega,by go_num,by rw [HN1.out,if_neg hsx]; first | rfl | go_num | (congr 1),by rw [HN2.out,if_pos htx]; first | rfl | go_num | (congr 1),HKY.out⟩
           case measure=>simp [intOf]; omega
          ·rw [show decide (t=x)=false from decide_eq_false htx]
           go_wp2_with fail
           go_roundw
           case rel=>exact ⟨j+1,by omega,by go_num,by rw [HN1.out,if_neg hsx]; first | rfl | go_num | (congr 1),by rw [HN2.out,if_neg htx]; first | rfl | go_num | (congr 1),HKY.out⟩
           case measure=>simp [intOf]; omega
      ·obtain rfl:j=l.length:=by omega
       have hce:cntS x (O.take l.length)=cntS x (l.take l.length):=by
        have h1:O.take l.length=O:=by rw [← hol,List.take_length]
        rw [h1,List.take_length]; exact cntS_perm HPM.out
       rw [hce]
       clear hce
       go_wp2_with fail
       go_roundw
       case rel=>exact ⟨k+1,by omega,by go_num,HKQ.out⟩
       case measure=>simp [intOf]; omega
    ·obtain rfl:k=l.length:=by omega
     have HKW:=Lib.hid (HK4.out.trans HKR.out)
     clear HKR
     go_wp2_with fail
     refine (HAW.out wr HKW.out).mono ?_
     rintro e w9 ⟨rfl,hk9⟩
     have HK9:=Lib.hid (HKW.out.trans hk9)
     clear hk9
     go_wp2_with fail
     (try go_ret)
     exact ⟨rfl,HK9.out⟩
  ·have e1:ordR y lang l=(styE y,[]):=if_neg hst
   rw [e1]
   rintro e w2 ⟨vO,rfl,ho,hk2⟩
   have hs2:=Srcs.outO ho
   have HK2:=Lib.hid (HK1.out.trans hk2)
   obtain ⟨aO,cO,rfl,zO⟩:=(show ∃ a c,vO=.slice a 0 c∧0≤c by obtain ⟨a,c,e,q,_⟩:=hs2; exact ⟨a,c,e,q⟩)
   clear ho hk2 hs2 e1
   simp only
   go_wp2_with fail
   refine (HAW.out w2 HK2.out).mono ?_
   rintro e w9 ⟨rfl,hk9⟩
   have HK9:=Lib.hid (HK2.out.trans hk9)
   clear hk9
   go_wp2_with fail
   (try go_ret)
   exact ⟨rfl,HK9.out⟩
end Go.Proofs.YtmcoomlkbgiboaaGreatDoor

/- What every row of this seat needs: the arguments read behind a call that keeps what was there as they did before; the world of the witness; the variable that the library's search reads. No condition. -/
set_option linter.all false
namespace Go.Proofs.YtmcoomlkbgiboaaGreatDoor
open Go.ChangeShapes Go.WideShapes Go.ChangeAt Go.RowKit

theorem Tryz.ownNone:ownKnob Tryz.prog.godebug=none:=by kernel_rfl
theorem Tryz.laidOut:laidOutB Tryz.prog=true:=by kernel_rfl

section
variable {H:Type} {enc:TypeId × Value→H} {P:Program}
theorem trodAll_stays (hl:laidOutB P=true) {W W':World} {sp:Nat→Bool}:∀ {ts:List TypeId} {vs:List Value} {ds:List (DataW H)} {p:List MemPlace},
  (∀ t∈ts,P.readableRec t=true∧t<P.types.size)→DataW.TrodAll enc P W 0 (fun _=>true) true ts vs ds p→(∀ x∈p,W.sameAt W' x)→(∀ x∈p,sp x.block=true)→DataW.TrodAll enc P W' 0 sp true ts vs ds p
 | [],vs,ds,p,_,h,_,_=>by
  obtain ⟨rfl,rfl,rfl⟩:=trodAll_nil h
  exact trodAll_mk0
 | t :: ts,vs,ds,p,hr,h,hs,hp=>by
  obtain ⟨v,vs',d,ds',p1,p2,rfl,rfl,rfl,h0,h1⟩:=trodAll_cons h
  have h0':=WideElems.Trod_stays hl (hr t (by simp)).1 (hr t (by simp)).2 h0 (fun x hx=>hs x (by simp [hx])) (sp':=sp) (fun x hx=>hp x (by simp [hx]))
  exact trodAll_cons_mk h0' (trodAll_stays hl (fun t ht=>hr t (by simp [ht])) h1 (fun x hx=>hs x (by simp [hx])) (fun x hx=>hp x (by simp [hx])))

/-- The post of a law: it answers true, and what was there is as it was. -/
theorem law_post {f:Func} {s:ChangeSpec} {apart fresh handsOn again:Bool} {W W':World} {args:Array Value} {ds gs:List (DataW H)} {before:List MemPlace} {bt:TypeId}
  (hl:laidOutB P=true) (hread:∀ t∈f.params.toList,P.readableRec t=true∧t<P.types.size) (hr:f.resultTypes=#[bt]) (hbt:P.underlying bt=some .bool) (hsv:s.vars=[])
  (hW:DataW.Whole enc P f.params.toList s.vars apart W args.toList ds gs before) (hs:s.fn H ds={ results:=[.lit (.bool true)],args:=ds }) (hb:Kept W W') :
  s.post enc P f apart fresh handsOn again W args (.bool true) W':=by
 have hW':=hW
 have hlt:∀ p∈before,p.block<W.heap.size:=fun p hp=>hW'.lt p hp
 have hold:∀ p∈before,(fun b=>decide (b<W.heap.size)) p.block=true:=fun p hp=>by simpa using hlt p hp
 obtain ⟨pa,pv,hA,hV,hbe,hz,hn⟩:=hW
 rw [hsv] at hV
 obtain ⟨rfl,rfl⟩:=trodVars_none hV
 rw [List.append_nil] at hbe
 subst hbe
 have hs':s.fn H (ds ++ [])={ results:=[.lit (.bool true)],args:=ds }:=by rw [List.append_nil]; exact hs
 have hres:∀ (b:Nat) (sp:Nat→Bool) (hd:Bool),DataW.TrodAll enc P W' b sp hd f.resultTypes.toList ((Value.bool true).resultList f.resultTypes.size) (s.fn H (ds ++ [])).results []:=by
  intro b sp hd
  rw [hs',hr]
  exact trodAll_cons_mk (shut_bool hbt _) trodAll_mk0
 have hargs:∀ sp:Nat→Bool,(∀ p∈before,sp p.block=true)→DataW.TrodAll enc P W' 0 sp true f.params.toList args.toList (s.fn H (ds ++ [])).args before:=by
  intro sp hsp
  rw [hs']
  exact trodAll_stays hl hread hA (fun x hx=>hb.same (hlt x hx)) hsp
 have hvars:∀ sp:Nat→Bool,DataW.TrodVars enc P W' sp s.vars (s.fn H (ds ++ [])).vars []:=by
  intro sp
  rw [hs',hsv]
  rfl
 have hok:=ok_one (P:=P) (W':=W') (v:=.bool true) hr rfl (okWide_bool_mk hbt _)
 refine ⟨ds,[],before,[],before,[],hW',hres _ _ _,hargs _ hold,hvars _,World.keptBut_mono (fun p hp=>⟨hp,?_⟩) (hb.frame (· ∈ before)),fun _=>?_⟩
 ·exact Or.inr (Or.inl hp)
 ·refine ⟨hok,_,_,([] ++ before) ++ [],⟨[] ++ before,[],trodAll_append (hargs _ (fun _ _=>rfl)) (hres _ _ _),hvars _,rfl,?_,?_⟩,?_⟩
  ·intro b off hp
   have hin:MemPlace.cell b off∈before:=by simpa using hp
   rw [hb.frozen (hlt _ hin)]
   exact hz b off hin
  ·intro ha
   have:=hn ha
   simpa using this
  ·intro p hp _
   simpa using hp
end

theorem gnd_of {W:World} (h:W.ShapedOpen Tryz.prog):Gnd W :=
 Go.Proofs.cell_of_shapedOpen_int (zero:=#[.int .i64 0]) (t:=3) h (of_decide_eq_true (by kernel_rfl)) (by kernel_rfl) rfl (by kernel_rfl) (by kernel_rfl) Tryz.underlying3

/-- The cells of the two tables of utf8. -/
def firstCells:Array Value:=(Go.Pinned.utf8FirstZ.map fun (n:Nat)=>Value.int .u8 (n:Int)).toArray
def acceptCells:Array Value:=#[.int .u8 128,.int .u8 191,.int .u8 160,.int .u8 191,.int .u8 128,.int .u8 159,.int .u8 144,.int .u8 191,.int .u8 128,.int .u8 143,.int .u8 0,.int .u8 0,.int .u8 0,.int .u8 0,.int .u8 0,.int .u8 0,.int .u8 0,.int .u8 0,.int .u8 0,.int .u8 0,.int .u8 0,.int .u8 0,.int .u8 0,.int .u8 0,.int .u8 0,.int .u8 0,.int .u8 0,.int .u8 0,.int .u8 0,.int .u8 0,.int .u8 0,.int .u8 0]
def putCells (cs:Array Value):Obj→Obj
 | .cells _ t frozen=>.cells cs t frozen
 | o=>o
end Go.Proofs.YtmcoomlkbgiboaaGreatDoor
