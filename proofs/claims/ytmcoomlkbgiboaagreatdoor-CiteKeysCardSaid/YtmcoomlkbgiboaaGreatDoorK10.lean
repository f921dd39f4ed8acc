/- strings.ContainsAny at every text and a short set of ASCII letters: the walk. Conditions: lengths. -/
import Derived.Test.YtmcoomlkbgiboaaGreatDoorK06
import Derived.Test.YtmcoomlkbgiboaaGreatDoorK08
import Derived.Test.YtmcoomlkbgiboaaGreatDoorK09
import Derived.Test.YtmcoomlkbgiboaaGreatDoorK07
import Derived.Test.YtmcoomlkbgiboaaGreatDoorK03

set_option linter.all false
namespace Go.Proofs.YtmcoomlkbgiboaaGreatDoor
open Go.RowKit

theorem dec_high (s:ByteArray) (i:Nat) (h:128≤byteAt s i):128≤(dec s i).1∧∀ j,j<(dec s i).2.toNat→128≤byteAt s (i+j):=by
 have m1:∀ k l h,0≤moreOf s k l h→l≤byteAt s k:=fun k l h q=>(more_yes q).2.1
 have hl3:128≤low3 (byteAt s i):=by unfold low3; split <;> omega
 have hl4:128≤low4 (byteAt s i):=by unfold low4; split <;> omega
 unfold dec
 rw [if_neg (by omega)]
 split
 ·split
  ·rename_i q
   refine ⟨by simp only; omega,fun j hj=>?_⟩
   have:=m1 _ _ _ q
   rcases (show j=0∨j=1 by simp only at hj; omega) with rfl | rfl
   ·exact h
   ·exact this
  ·exact ⟨by simp only; omega,fun j hj=>by
     simp only at hj; obtain rfl:j=0:=by omega
     exact h⟩
 split
 ·unfold three
  split
  ·exact ⟨by simp only; omega,fun j hj=>by
     simp only at hj; obtain rfl:j=0:=by omega
     exact h⟩
  ·rename_i q
   have a1:=m1 (i+1) (low3 (byteAt s i)) (high3 (byteAt s i)) (by omega)
   have a2:=m1 (i+2) 128 191 (by omega)
   have a3:=more_yes (s:=s) (i:=i+1) (l:=low3 (byteAt s i)) (h:=high3 (byteAt s i)) (by omega)
   refine ⟨?_,fun j hj=>?_⟩
   ·simp only
    by_cases e:byteAt s i=224
    ·have:low3 (byteAt s i)=160:=by unfold low3; rw [if_pos e]
     omega
    ·omega
   ·rcases (show j=0∨j=1∨j=2 by simp only at hj; omega) with rfl | rfl | rfl
    ·exact h
    ·omega
    ·exact a2
 split
 ·unfold four
  split
  ·exact ⟨by simp only; omega,fun j hj=>by
     simp only at hj; obtain rfl:j=0:=by omega
     exact h⟩
  ·rename_i q
   have a1:=m1 (i+1) (low4 (byteAt s i)) (high4 (byteAt s i)) (by omega)
   have a2:=m1 (i+2) 128 191 (by omega)
   have a4:=m1 (i+3) 128 191 (by omega)
   have a3:=more_yes (s:=s) (i:=i+1) (l:=low4 (byteAt s i)) (h:=high4 (byteAt s i)) (by omega)
   refine ⟨?_,fun j hj=>?_⟩
   ·simp only
    by_cases e:byteAt s i=240
    ·have:low4 (byteAt s i)=144:=by unfold low4; rw [if_pos e]
     omega
    ·omega
   ·rcases (show j=0∨j=1∨j=2∨j=3 by simp only at hj; omega) with rfl | rfl | rfl | rfl
    ·exact h
    ·omega
    ·exact a2
    ·exact a4
 ·exact ⟨by simp only; omega,fun j hj=>by
    simp only at hj; obtain rfl:j=0:=by omega
    exact h⟩
theorem any_skip (f:UInt8→Bool) (hf:∀ b:UInt8,128≤(b.toNat:Int)→f b=false) (l:Bs):∀ (n i:Nat),(∀ j,j<n→128≤at8 l (i+j))→(l.drop i).any f=(l.drop (i+n)).any f
 | 0,i,_=>rfl
 | n+1,i,h=>by
  rw [show i+(n+1)=(i+1)+n from by omega,← any_skip f hf l n (i+1) (fun j hj=>by have:=h (j+1) (by omega); rw [show i+1+j=i+(j+1) from by omega]; exact this)]
  rcases Nat.lt_or_ge i l.length with q | q
  ·rw [List.drop_eq_getElem_cons q,List.any_cons,hf,Bool.false_or]
   rw [← at8_get l i q]; exact h 0 (by omega)
  ·rw [List.drop_of_length_le q,List.drop_of_length_le (by omega)]
theorem any_next (f:UInt8→Bool) (l:Bs) (i:Nat) (h:i<l.length):(l.drop i).any f=(f l[i] || (l.drop (i+1)).any f):=by
 rw [List.drop_eq_getElem_cons h,List.any_cons]

def inSet (cs:Bs) (b:UInt8):Bool:=cs.contains b
def AnyPost (l cs:Bs) (w:World) (e:Ending) (w':World):Prop:=∃ r:Int,e=.returned (.int .i64 r)∧(decide (0≤r)=l.any (inSet cs))∧Kept w w'

set_option maxRecDepth 100000 in
set_option maxHeartbeats 1600000 in
theorem iany_short (l cs:Bs) (w:World) (hcs:Ascii cs) (hl:cs.length≤1000) (h2:2≤cs.length) (h8:l.length≤8) :
  Calls Tryz.prog 118 #[.string (bs l),.string (bs cs)] w (AnyPost l cs w):=by
 have hne1:((cs.length:Int) == 1)=false:=by rw [beq_eq_false_iff_ne]; omega
 have hce:cs.isEmpty=false:=by cases cs <;> simp at h2 ⊢
 have hce':¬ cs=[]:=by cases cs <;> simp at h2 ⊢
 have hf:∀ b:UInt8,128≤(b.toNat:Int)→inSet cs b=false:=fun b hb=>by
  unfold inSet
  rw [Bool.eq_false_iff]
  intro q
  have:=hcs b (by simpa using q)
  omega
 have HF:=Lib.hid hf
 clear hf
 go_enter Tryz.func118,Tryz.ntmps118
 go_wp2_with (go_at_call 159; refine (Tryz.strings_shouldUseASCIISet _ _).mono ?_; rintro e w' ⟨rfl,hw⟩; obtain rfl:=hw.symm)
 go_loopw [9] (fun u wr=>∃ pos:Nat,pos≤l.length∧wr.heap[w.heap.size]? = some (.stringIter (bs l) pos)∧Kept w wr∧Hid (l.any (inSet cs)=(l.drop pos).any (inSet cs))) (fun u wr=>l.length - wr.iterPos w.heap.size)
 case atStart=>exact ⟨0,Nat.zero_le _,World.iter_heap _ _ _,kept_alloc _ _,rfl⟩
 case round =>
  obtain ⟨pos,hp,hit,hk,HA⟩:=hrel
  have hip:wr.iterPos w.heap.size=pos:=by simp [World.iterPos,hit]
  have hsz:w.heap.size<wr.heap.size:=by
   rcases Nat.lt_or_ge w.heap.size wr.heap.size with q | q
   ·exact q
   ·rw [Array.getElem?_eq_none q] at hit; cases hit
  by_cases hlt:pos<l.length
  ·have nx:=fun ty=>run_next_k (P:=Tryz.prog) wr w.heap.size (bs l) pos ty hit hlt
   have hb:=dec_bounds (bs l) pos hlt
   have h0:=at8_lo l pos
   have hit2:∀ p,(wr.iterAt w.heap.size (bs l) p).heap[w.heap.size]? = some (.stringIter (bs l) p):=fun p=>Lib.iterAt_heap wr w.heap.size (bs l) pos p hit
   have hk2:∀ p,Kept w (wr.iterAt w.heap.size (bs l) p):=fun p=>Lib.below_iterAt hk (Nat.le_refl _) (bs l) p
   have HIT:=Lib.hid hit2
   have HK2:=Lib.hid hk2
   have HIP:=Lib.hid hip
   clear hit2 hk2 hip
   by_cases ha:at8 l pos<128
   ·have HN:=Lib.hid (any_next (inSet cs) l pos hlt)
    rw [dec_ascii l pos ha] at nx
    simp only at nx
    have HB:Hid (at8 l pos=(l[pos].toNat:Int)):=at8_get l pos hlt
    generalize l[pos]=x at *
    generalize at8 l pos=c at *
    have HX:Hid (∀ w,Calls Tryz.prog 158 #[.string (bs cs),.int .i32 c] w fun e w'=>e=.returned (.int .i64 (Lib.indexByte cs x))∧w=w'):=by
     intro w
     refine (Tryz.strings_IndexRune_ascii (bs cs) c w h0 ha).mono ?_
     rintro e w' ⟨rfl,rfl⟩
     refine ⟨?_,rfl⟩
     rw [HB.out,Int.toNat_natCast,show x.toNat.toUInt8=x from by simp,bs_data]
    have HC:Hid (decide (0≤Lib.indexByte cs x)=inSet cs x):=indexByte_contains x cs
    have hge:=Lib.indexByte_ge cs x
    generalize Lib.indexByte cs x=r at *
    by_cases hr:0≤r
    ·go_wp2_with fail
     refine (HX.out _).mono ?_
     rintro e w1 ⟨rfl,rfl⟩
     go_wp2_with fail
     go_ret
     exact ⟨_,rfl,by rw [HA.out,HN.out,← HC.out,decide_eq_true hr]; simp,HK2.out _⟩
    ·go_wp2_with fail
     refine (HX.out _).mono ?_
     rintro e w1 ⟨rfl,rfl⟩
     go_wp2_with fail
     go_roundw
     case rel=>exact ⟨pos+1,by omega,HIT.out _,HK2.out _,by show _=_; rw [HA.out,HN.out,← HC.out,decide_eq_false (by omega)]; simp⟩
     case measure=>rw [HIP.out]; have:=HIT.out (pos+1); simp [World.iterPos,this]; omega
   ·have HS:Hid ((l.drop pos).any (inSet cs)=(l.drop (pos+(dec (bs l) pos).2.toNat)).any (inSet cs)):=any_skip (inSet cs) HF.out l _ pos (dec_high (bs l) pos (by rw [byteAt_bs]; omega)).2
    have hc:=(dec_high (bs l) pos (by rw [byteAt_bs]; omega)).1
    obtain ⟨c,n,hd⟩:∃ c n,dec (bs l) pos=(c,n):=⟨(dec (bs l) pos).1,(dec (bs l) pos).2,rfl⟩
    rw [hd] at nx hb HS hc
    simp only at nx hb HS hc
    obtain ⟨b1,b2,b3,b4,b5⟩:=hb
    simp only [bs_size] at b5
    have HX:Hid (∀ w,Calls Tryz.prog 158 #[.string (bs cs),.int .i32 c] w fun e w'=>e=.returned (.int .i64 (-1))∧Kept w w'):=by
     intro w
     by_cases q:c=65533
     ·rw [q]; exact irune_err cs w hcs hl
     ·refine (irune_big cs c w hc b2 (by rw [beq_eq_false_iff_ne]; exact q) hcs hl).mono ?_
      rintro e w' ⟨rfl,n,rfl⟩
      exact ⟨rfl,kept_drewN _ _⟩
    clear hd
    go_wp2_with fail
    refine (HX.out _).mono ?_
    rintro e w1 ⟨rfl,hk1⟩
    have HK1:=Lib.hid hk1
    clear hk1
    go_wp2_with fail
    go_roundw
    case rel =>
     refine ⟨pos+n.toNat,by omega,?_,(HK2.out _).trans HK1.out,by show _=_; rw [HA.out,HS.out]⟩
     rw [HK1.out.block _ (by rw [Lib.iterAt_size]; exact hsz)]
     exact HIT.out _
    case measure =>
     have:=HIT.out (pos+n.toNat)
     rw [← HK1.out.block _ (by rw [Lib.iterAt_size]; exact hsz)] at this
     rw [HIP.out]
     simp [World.iterPos,this]; omega
  ·have nx:=fun ty=>run_next_k_end (P:=Tryz.prog) wr w.heap.size (bs l) pos ty hit hlt
   go_wp2_with fail
   go_ret
   exact ⟨_,rfl,by rw [HA.out,List.drop_of_length_le (by omega)]; rfl,hk⟩

theorem zero_set (w:World):(zeroValue 214).run Tryz.prog w=.ok (.agg (Array.replicate 256 (.bool false))) w:=by kernel_rfl

theorem iany_any (l cs:Bs) (w:World) (hcs:Ascii cs) (hl:cs.length≤1000) (h2:2≤cs.length) (hs:l.length≤1000000000) :
  Calls Tryz.prog 118 #[.string (bs l),.string (bs cs)] w (AnyPost l cs w):=by
 by_cases h8:l.length≤8
 ·exact iany_short l cs w hcs hl h2 h8
 ·refine (Tryz.strings_IndexAny_long zero_set (bs l) (bs cs) w (by simpa using h2) (by simp; omega) (by simp; omega) (by simp; omega) (fun j b hb=>?_)).mono ?_
  ·have:=hcs b (List.mem_of_getElem? (by simpa using hb)); omega
  ·rintro e w' ⟨rfl,rfl⟩
   exact ⟨_,rfl,containsAny_eq cs l,(kept_alloc _ _).trans (kept_alloc _ _)⟩

set_option maxRecDepth 100000 in
theorem cany_any (l cs:Bs) (w:World) (hcs:Ascii cs) (hl:cs.length≤1000) (h2:2≤cs.length) (hs:l.length≤1000000000) :
  Calls Tryz.prog 260 #[.string (bs l),.string (bs cs)] w fun e w'=>e=.returned (.bool (l.any (inSet cs)))∧Kept w w':=by
 go_enter Tryz.func260,Tryz.ntmps260
 go_wp2_with fail
 refine (iany_any l cs _ hcs hl h2 hs).mono ?_
 rintro e w1 ⟨r,rfl,hr,hk⟩
 have HR:=Lib.hid hr
 clear hr
 go_wp2_with fail
 all_goals go_ret
 all_goals exact ⟨ret_bool (by rw [← HR.out]),hk⟩
end Go.Proofs.YtmcoomlkbgiboaaGreatDoor

/- letters, ruleString of collate, Count of chars: the letters of a text, rule texts. Conditions: lengths. -/
set_option linter.all false
namespace Go.Proofs.YtmcoomlkbgiboaaGreatDoor
open Go.RowKit


set_option maxRecDepth 100000 in
set_option maxHeartbeats 1600000 in
theorem letters_any (l:Bs) (w:World) (hl:l.length≤1100000):Calls Tryz.prog 192 #[.string (bs l)] w (IntsP (ptsL l) w):=by
 obtain ⟨i0,hi,hz0,hz1,hz2⟩:=info_parts Tryz.infoInt
 have H0:Hid (ptsL l=[] ++ ptsF l 0):=by show _=_; rw [ptsF_zero]; rfl
 unfold IntsP
 go_enter Tryz.func192,Tryz.ntmps192
 go_wp2_with (at_make; refine wpList_make_own _ rfl _ _ 199 rfl w.heap.size 3 i0 (.int .i64 0) 1 Tryz.underlying199 hi hz0 hz1 .i64 .i64 l.length l.length rfl rfl rfl (by rw [hz2]; omega) (by unfold maxLen; omega) (by simp) ?_; intro w1 hown hgrow)
 have HK1:Kept w w1:=Below.grown (Below.refl _ _) hgrow (Nat.le_refl _) (fun j hj=>by cases hj)
 have hs1:w.heap.size≤w1.heap.size:=HK1.size
 go_loopw [3] (fun v wr=>∃ (pos:Nat) (xs:List Int),pos≤l.length∧wr.heap[w1.heap.size]? = some (.stringIter (bs l) pos)∧wr.ownsRow w.heap.size 3 1 v xs.length (intC xs)∧Hid (ptsL l=xs ++ ptsF l pos)∧xs.length≤pos∧Kept w wr) (fun _ wr=>l.length - wr.iterPos w1.heap.size)
 case atStart=>exact ⟨0,[],Nat.zero_le _,World.iter_heap _ _ _,own_kept hown (kept_alloc _ _),H0,Nat.le_refl _,HK1.trans (kept_alloc _ _)⟩
 case round =>
  clear hown hgrow
  obtain ⟨pos,xs,hp,hit,hown,HA,hxl,hk⟩:=hrel
  have hip:wr.iterPos w1.heap.size=pos:=by simp [World.iterPos,hit]
  have hsz:w1.heap.size<wr.heap.size:=by
   rcases Nat.lt_or_ge w1.heap.size wr.heap.size with q | q
   ·exact q
   ·rw [Array.getElem?_eq_none q] at hit; cases hit
  by_cases hlt:pos<l.length
  ·have nx:=fun ty=>run_next_k (P:=Tryz.prog) wr w1.heap.size (bs l) pos ty hit hlt
   have hb:=dec_bounds (bs l) pos hlt
   have HP:=Lib.hid (ptsF_in l pos hlt)
   have hitW:(wr.iterAt w1.heap.size (bs l) (pos+(dec (bs l) pos).2.toNat)).heap[w1.heap.size]? = some (.stringIter (bs l) (pos+(dec (bs l) pos).2.toNat)):=Lib.iterAt_heap wr w1.heap.size (bs l) pos _ hit
   have hkW:Kept w (wr.iterAt w1.heap.size (bs l) (pos+(dec (bs l) pos).2.toNat)):=Lib.below_iterAt hk hs1 (bs l) _
   have hoW:=own_iterAtC hown hit (bs l) (pos+(dec (bs l) pos).2.toNat)
   have hne:=own_iter_ne hown hit
   have hzW:(wr.iterAt w1.heap.size (bs l) (pos+(dec (bs l) pos).2.toNat)).heap.size=wr.heap.size:=Lib.iterAt_size ..
   obtain ⟨c,n,hd⟩:∃ c n,dec (bs l) pos=(c,n):=⟨(dec (bs l) pos).1,(dec (bs l) pos).2,rfl⟩
   rw [hd] at nx hb HP hitW hkW hoW hzW
   simp only at nx hb HP hitW hkW hoW hzW
   obtain ⟨b1,b2,b3,b4,b5⟩:=hb
   simp only [bs_size] at b5
   obtain ⟨W,HW⟩:∃ W,Hid (wr.iterAt w1.heap.size (bs l) (pos+n.toNat)=W):=⟨_,rfl⟩
   simp only [HW.out] at nx hitW hkW hoW hzW
   have HITW:=Lib.hid hitW
   have HKW:=Lib.hid hkW
   have HNE:=Lib.hid hne
   have HIP:=Lib.hid hip
   have hszW:w1.heap.size<W.heap.size:=by omega
   have hwW:w.heap.size≤W.heap.size:=by omega
   clear hitW hkW hd hip hit hk hown hne hzW
   go_wp2_with (at_builtin; refine wpList_append_own _ rfl _ _ 199 rfl w.heap.size 3 i0 (.int .i64 0) 1 8 Tryz.underlying199 hi hz0 hz1 hz2 rfl (by decide) _ _ _ rfl (hoW.alloc _) ⟨W.heap.size,0,none⟩ 1 1 [.int .i64 c] rfl rfl ?_ ?_ ?_ ?_ ?_ ?_)
   ·exact new_cells _ #[.int .i64 c] _ _ (by simp)
   ·intro u hu; simp at hu; subst hu; rfl
   ·unfold maxLen; omega
   ·omega
   ·simp; omega
   intro v' w2 hown2 hgrow2 _
   have HB2:=Lib.hid ((HKW.out.trans (kept_alloc W _)).trans' (grown_below (hoW.alloc _) hgrow2 (by simp; omega)))
   have hit2:w2.heap[w1.heap.size]? = some (.stringIter (bs l) (pos+n.toNat)):=by
    rw [hgrow2.block w1.heap.size (by simp; omega) HNE.out,Below.heap_alloc _ _ _ hszW]
    exact HITW.out
   have HIT2:=Lib.hid hit2
   rw [← intC_snoc] at hown2
   have HO:=Lib.hid hown2
   clear hown2 hgrow2 hoW hit2
   go_wp2_with fail
   go_roundw
   case rel=>exact ⟨pos+n.toNat,xs ++ [c],by omega,HIT2.out,by simpa using HO.out,by show _=_; rw [HA.out,HP.out]; simp,by simp; omega,HB2.out⟩
   case measure=>rw [HIP.out]; have:=HIT2.out; simp [World.iterPos,this]; omega
  ·have nx:=fun ty=>run_next_k_end (P:=Tryz.prog) wr w1.heap.size (bs l) pos ty hit hlt
   have HI:=Lib.hid (Ints.own hown)
   have HL:Hid (ptsL l=xs):=by
    show _=_
    rw [HA.out,ptsF_out l pos hlt,List.append_nil]
   have HK:=Lib.hid hk
   clear hown hk
   go_wp2_with fail
   go_ret
   exact ⟨_,rfl,by rw [HL.out]; exact HI.out,HK.out⟩

end Go.Proofs.YtmcoomlkbgiboaaGreatDoor

/- A collation in memory. No condition. -/
set_option linter.all false
namespace Go.Proofs.YtmcoomlkbgiboaaGreatDoor
open Go.RowKit

/-- The lists of a collation read in w. -/
def Col (w:World) (vR vO:Value) (c:ColT):Prop:=Prs w vR c.ranks∧Strs w vO c.order
theorem Col.kept {w w':World} {vR vO:Value} {c:ColT} (h:Col w vR vO c) (k:Kept w w'):Col w' vR vO c:=⟨h.1.kept k,h.2.kept k⟩
abbrev colV (vR vO:Value) (ig:Bs):Value:=.agg #[vR,vO,.string (bs ig)]
/-- Lengths that every walk over a collation bears. -/
def SmallC (c:ColT):Prop:=c.ranks.length≤1000∧c.order.length≤1000∧c.ignore.length≤1000∧(∀ s∈c.order,s.length≤1000)∧∀ p∈c.ranks,p.1.length≤1000∧p.2.length≤1000
end Go.Proofs.YtmcoomlkbgiboaaGreatDoor

/- The closure of collate.Check that puts the letters of a text to a set. Conditions: lengths. -/
set_option linter.all false
namespace Go.Proofs.YtmcoomlkbgiboaaGreatDoor
open Go.RowKit

theorem MapV.no_cell {w:World} {m:Nat} {es:List (Int × Value)} (h:MapV w m es) (o:Nat):w.cell? ⟨m,o,none⟩=none:=by unfold MapV at h; simp [World.cell?,h]
/-- Numbers in memory do not lie in a map's block. -/
theorem Ints.map {w w':World} {v:Value} {xs:List Int} {m:Nat} {es:List (Int × Value)} (h:Ints w v xs) (hm:MapV w m es) (k:Only (fun i=>i=m) w w'):Ints w' v xs:=by
 obtain ⟨a,c,hv,hc,h3⟩:=h
 refine ⟨a,c,hv,hc,fun q=>?_⟩
 obtain ⟨g,o,ha,hg,hcell⟩:=h3 q
 have hne:g≠m:=by
  rintro rfl
  have h0:=hcell 0 _ (List.getElem?_eq_getElem q)
  rw [hm.no_cell] at h0
  cases h0
 exact ⟨g,o,ha,Nat.lt_of_lt_of_le hg k.size,fun j x hx=>(k.cell g _ hg hne).trans (hcell j x hx)⟩
theorem Blk.onl {S:Nat→Prop} {w w':World} {g:Nat} {t:TypeId} {cs:Array Value} (h:Blk w g t cs) (k:Only S w w') (hs:¬ S g):Blk w' g t cs:=(k.block g h.lt hs).trans h
theorem Blk.no_map {w:World} {g m:Nat} {t:TypeId} {cs:Array Value} {es:List (Int × Value)} (h:Blk w g t cs) (hm:MapV w m es):g≠m:=by
 rintro rfl
 unfold Blk at h
 unfold MapV at hm
 rw [h] at hm
 cases hm
theorem Tryz.zeroBool (w:World):(zeroValue 4).run Tryz.prog w=.ok (.bool false) w:=by kernel_rfl
end Go.Proofs.YtmcoomlkbgiboaaGreatDoor
