/- strings.ContainsAny at every text and a short set of ASCII letters. Conditions: lengths. -/
import Derived.Test.YtmcoomlkbgiboaaGreatDoorU05
import Derived.Test.YtmcoomlkbgiboaaGreatDoorU03
import Derived.Test.YtmcoomlkbgiboaaGreatDoorU01
import Derived.Test.YtmcoomlkbgiboaaGreatDoorU02

set_option linter.all false
namespace Go.Proofs.YtmcoomlkbgiboaaGreatDoor
open Go.RowKit

def encL (r:Int):Bs:=(Utf8.encode r).data.toList
theorem encode_bs (r:Int):Utf8.encode r=bs (encL r):=rfl
theorem ofNat_big (n:Nat) (h:n<256) (k:128≤n):128≤((UInt8.ofNat n).toNat:Int):=by
 rw [UInt8.toNat_ofNat',Nat.mod_eq_of_lt h]; omega
theorem encL_big (r:Int) (h:128≤r):2≤(encL r).length∧(encL r).length≤4∧∀ b∈encL r,128≤(b.toNat:Int):=by
 have hc:128≤(if Utf8.valid r then r.toNat else Utf8.runeError)∧(if Utf8.valid r then r.toNat else Utf8.runeError)≤1114111:=by
  split
  ·rename_i hv; unfold Utf8.valid at hv; simp only [Bool.or_eq_true,Bool.and_eq_true,decide_eq_true_eq] at hv; omega
  ·unfold Utf8.runeError; omega
 unfold encL Utf8.encode
 generalize (if Utf8.valid r then r.toNat else Utf8.runeError)=c at *
 simp only
 rw [if_neg (by omega)]
 split
 ·refine ⟨by simp,by simp,?_⟩
  intro b hb
  simp only [List.mem_cons,List.not_mem_nil,or_false] at hb
  rcases hb with rfl | rfl <;> exact ofNat_big _ (by omega) (by omega)
 split
 ·refine ⟨by simp,by simp,?_⟩
  intro b hb
  simp only [List.mem_cons,List.not_mem_nil,or_false] at hb
  rcases hb with rfl | rfl | rfl <;> exact ofNat_big _ (by omega) (by omega)
 ·refine ⟨by simp,by simp,?_⟩
  intro b hb
  simp only [List.mem_cons,List.not_mem_nil,or_false] at hb
  rcases hb with rfl | rfl | rfl | rfl <;> exact ofNat_big _ (by omega) (by omega)
theorem at8_mem (l:Bs) (j:Nat) (h:j<l.length):∃ b∈l,at8 l j=(b.toNat:Int):=⟨l[j],List.getElem_mem h,at8_get l j h⟩
def Ascii (cs:Bs):Prop:=∀ b∈cs,(b.toNat:Int)<128
theorem indexByte_not (c:UInt8) (l:Bs) (h:c ∉ l):Lib.indexByte l c = -1:=by
 have h1:=indexByte_contains c l
 have h2:=Lib.indexByte_ge l c
 have h3:l.contains c=false:=by simpa using h
 rw [h3] at h1
 simp at h1; omega

set_option maxRecDepth 100000 in
set_option maxHeartbeats 1600000 in
theorem irune_big (cs:Bs) (r:Int) (w:World) (hr:128≤r) (hr2:r≤2000000) (hne:(r == 65533)=false) (hcs:Ascii cs) (hl:cs.length≤1000) :
  Calls Tryz.prog 158 #[.string (bs cs),.int .i32 r] w fun e w'=>e=.returned (.int .i64 (-1))∧∃ n,w'=w.drewN n:=by
 obtain ⟨v,hv⟩:∃ v,Lib.validRune r=v:=⟨_,rfl⟩
 cases v
 ·go_enter Tryz.func158,Tryz.ntmps158
  go_wp2_with (go_at_call 206; refine (Tryz.utf8_ValidRune _ _).mono ?_; rintro e w' ⟨rfl,rfl⟩)
  go_ret
  exact ⟨rfl,0,rfl⟩
 ·obtain ⟨e1,e2,e3⟩:=encL_big r hr
  have hen:=encode_bs r
  generalize encL r=rs at *
  have hlast:rs.length - 1<rs.length:=by omega
  obtain ⟨b,hb,hbe⟩:=at8_mem rs (rs.length - 1) hlast
  have i0:=run_ix (P:=Tryz.prog) (t:=9) Tryz.underlying9 rs (rs.length - 1) hlast (rs.length - 1) (by omega)
  have hbig:=e3 b hb
  have hbl:(b.toNat:Int)<256:=by have:=b.toNat_lt; omega
  have hnot:∀ k,Lib.indexByte (cs.drop k) b = -1:=fun k=>indexByte_not b _ (fun q=>by have:=hcs b (List.mem_of_mem_drop q); omega)
  obtain ⟨c,hc⟩:∃ c:Int,c=b.toNat:=⟨_,rfl⟩
  rw [hbe,← hc] at i0
  have hb1:∀ x:Bs,Lib.indexByte x b = -1→∀ w,Calls Tryz.prog 131 #[.string (bs x),.int .u8 c] w fun e w'=>e=.returned (.int .i64 (-1))∧w'=w:=by
   intro x hx w
   refine (Tryz.strings_IndexByte (bs x) c w).mono ?_
   rintro e w' ⟨rfl,rfl⟩
   refine ⟨?_,rfl⟩
   rw [hc,Int.toNat_natCast,show b.toNat.toUInt8=b from by simp,bs_data,hx]
  have HB:=Lib.hid hb1
  rw [← hc] at hbig hbl
  clear hbe hb e3 hc hb1
  by_cases hlt:rs.length - 1<cs.length
  ·have i1:=run_ix (P:=Tryz.prog) (t:=9) Tryz.underlying9 cs (rs.length - 1) hlt (rs.length - 1) (by omega)
   have hsm:at8 cs (rs.length - 1)<128:=by obtain ⟨b',hb',e⟩:=at8_mem cs _ hlt; rw [e]; exact hcs b' hb'
   have hsm0:=at8_lo cs (rs.length - 1)
   generalize at8 cs (rs.length - 1)=c' at *
   have sl:=run_from (P:=Tryz.prog) (t:=9) Tryz.underlying9 cs (rs.length) (by omega) (rs.length - 1+1) (by omega) _ rfl
   have sl2:=run_from (P:=Tryz.prog) (t:=9) Tryz.underlying9 cs (rs.length) (by omega) (rs.length) rfl _ rfl
   have HN:=Lib.hid (HB.out _ (hnot rs.length))
   clear hnot HB
   go_enter Tryz.func158,Tryz.ntmps158
   go_wp2_with (first | (go_at_call 206; refine (Tryz.utf8_ValidRune _ _).mono ?_; rintro e w' ⟨rfl,rfl⟩))
   go_step3
   go_wp2_with (first | (go_at_call 206; refine (Tryz.utf8_ValidRune _ _).mono ?_; rintro e w' ⟨rfl,rfl⟩))
   refine wp_loop_rounds 1 ?_
   rw [rounds_succ]
   go_wp2_with fail
   go_step3
   go_wp2_with fail
   go_quiet (fail)
   obtain ⟨w2,hw2⟩:∃ x,x=w'.drewN nq:=⟨_,rfl⟩
   rw [← hw2]
   have HW2:=Lib.hid hw2
   clear hw2
   go_wp2_with fail
   have hsum:IntKind.i64.wrap (↑(List.length rs) - 1+1) = ↑(List.length rs):=IntWalk.i64_in _ (by omega) |>.trans (by omega)
   have hsum2:(0:Int) ≤ ↑(List.length rs):=by omega
   go_quiet ((go_at_call 131; exact Calls.quiet_of_same (HN.out _)))
   go_wp2_with fail
   rw [Exit.noGoto_ret]
   go_wp2_with fail
   rw [Exit.noGoto_ret]
   go_wp2_with fail
   go_ret
   exact ⟨rfl,by rw [HW2.out]; exact drewN_more⟩
  ·go_enter Tryz.func158,Tryz.ntmps158
   go_wp2_with (go_at_call 206; refine (Tryz.utf8_ValidRune _ _).mono ?_; rintro e w' ⟨rfl,rfl⟩)
   go_step3
   go_wp2_with fail
   refine wp_loop_rounds 1 ?_
   rw [rounds_succ]
   go_wp2_with fail
   try rw [Exit.noGoto_ret]
   try rw [Exit.noGoto_ret]
   go_ret
   exact ⟨rfl,0,rfl⟩

theorem dec_ascii (l:Bs) (i:Nat) (h:at8 l i<128):dec (bs l) i=(at8 l i,1):=by unfold dec; rw [byteAt_bs,if_pos h]
theorem next_iter {P:Program} (w:World) (l:Bs) (pos:Nat) (ty:TypeId) (h:pos<l.length) (c n:Int) (hd:dec (bs l) pos=(c,n)) :
  (Instr.next (.pointer (some ⟨w.heap.size,0,none⟩)) true ty).run P (w.iter (bs l) pos)=.ok (.tuple #[.bool true,.int .i64 pos,.int .i32 c]) (w.iter (bs l) (pos+n.toNat)):=by
 rw [run_next_any w (bs l) pos ty h]
 rw [dec_eq] at hd
 obtain ⟨h1,h2⟩:=Prod.mk.injEq _ _ _ _ ▸ hd
 rw [h1,← h2,Int.toNat_natCast]

set_option maxRecDepth 100000 in
set_option maxHeartbeats 1600000 in
theorem irune_err (cs:Bs) (w:World) (hcs:Ascii cs) (hl:cs.length≤1000) :
  Calls Tryz.prog 158 #[.string (bs cs),.int .i32 65533] w fun e w'=>e=.returned (.int .i64 (-1))∧Kept w w':=by
 go_enter Tryz.func158,Tryz.ntmps158
 go_wp2_with fail
 go_loopw [5] (fun u wr=>∃ pos:Nat,pos≤cs.length∧wr=w.iter (bs cs) pos) (fun u wr=>cs.length - wr.iterPos w.heap.size)
 case atStart=>exact ⟨0,Nat.zero_le _,rfl⟩
 case round =>
  obtain ⟨pos,hp,rfl⟩:=hrel
  by_cases hlt:pos<cs.length
  ·have hsm:at8 cs pos<128:=by obtain ⟨b',hb',e⟩:=at8_mem cs _ hlt; rw [e]; exact hcs b' hb'
   have hsm0:=at8_lo cs pos
   have nx:=fun ty=>next_iter (P:=Tryz.prog) w cs pos ty hlt _ _ (dec_ascii cs pos hsm)
   generalize at8 cs pos=c at *
   have hne:(c == 65533)=false:=by rw [beq_eq_false_iff_ne]; omega
   go_wp2_with fail
   go_roundw
   case rel=>exact ⟨pos+1,by omega,rfl⟩
   case measure=>simp; omega
  ·have nx:=fun ty=>run_next_end (P:=Tryz.prog) w (bs cs) pos ty hlt
   go_wp2_with fail
   go_ret
   exact ⟨rfl,kept_alloc _ _⟩
end Go.Proofs.YtmcoomlkbgiboaaGreatDoor

/- strings.ContainsAny at every text and a short set of ASCII letters: the walk. Conditions: lengths. -/
set_option linter.all false
namespace Go.Proofs.YtmcoomlkbgiboaaGreatDoor
open Go.RowKit

theorem dec_high (s:ByteArray) (i:Nat) (h:128≤byteAt s i):128≤(dec s i).1∧∀ j,j<(dec s i).2.toNat→128≤byteAt s (i+j):=by
 have m1:∀ k l h,0≤moreOf s k l h→l≤byteAt s k:=fun k l h q=>(more_yes q).2.1
 have hl3:128≤low3 (byteAt s i):=by unfold low3; split <;> omega
 have hl4:128≤low4 (byteAt s i):=by unfold low4; split <;> omega
 unfold dec
 rw [if_neg (by omega)]
 split
 ·split
  ·rename_i q
   refine ⟨by simp only; omega,fun j hj=>?_⟩
   have:=m1 _ _ _ q
   rcases (show j=0∨j=1 by simp only at hj; omega) with rfl | rfl
   ·exact h
   ·exact this
  ·exact ⟨by simp only; omega,fun j hj=>by
     simp only at hj; obtain rfl:j=0:=by omega
     exact h⟩
 split
 ·unfold three
  split
  ·exact ⟨by simp only; omega,fun j hj=>by
     simp only at hj; obtain rfl:j=0:=by omega
     exact h⟩
  ·rename_i q
   have a1:=m1 (i+1) (low3 (byteAt s i)) (high3 (byteAt s i)) (by omega)
   have a2:=m1 (i+2) 128 191 (by omega)
   have a3:=more_yes (s:=s) (i:=i+1) (l:=low3 (byteAt s i)) (h:=high3 (byteAt s i)) (by omega)
   refine ⟨?_,fun j hj=>?_⟩
   ·simp only
    by_cases e:byteAt s i=224
    ·have:low3 (byteAt s i)=160:=by unfold low3; rw [if_pos e]
     omega
    ·omega
   ·rcases (show j=0∨j=1∨j=2 by simp only at hj; omega) with rfl | rfl | rfl
    ·exact h
    ·omega
    ·exact a2
 split
 ·unfold four
  split
  ·exact ⟨by simp only; omega,fun j hj=>by
     simp only at hj; obtain rfl:j=0:=by omega
     exact h⟩
  ·rename_i q
   have a1:=m1 (i+1) (low4 (byteAt s i)) (high4 (byteAt s i)) (by omega)
   have a2:=m1 (i+2) 128 191 (by omega)
   have a4:=m1 (i+3) 128 191 (by omega)
   have a3:=more_yes (s:=s) (i:=i+1) (l:=low4 (byteAt s i)) (h:=high4 (byteAt s i)) (by omega)
   refine ⟨?_,fun j hj=>?_⟩
   ·simp only
    by_cases e:byteAt s i=240
    ·have:low4 (byteAt s i)=144:=by unfold low4; rw [if_pos e]
     omega
    ·omega
   ·rcases (show j=0∨j=1∨j=2∨j=3 by simp only at hj; omega) with rfl | rfl | rfl | rfl
    ·exact h
    ·omega
    ·exact a2
    ·exact a4
 ·exact ⟨by simp only; omega,fun j hj=>by
    simp only at hj; obtain rfl:j=0:=by omega
    exact h⟩
theorem any_skip (f:UInt8→Bool) (hf:∀ b:UInt8,128≤(b.toNat:Int)→f b=false) (l:Bs):∀ (n i:Nat),(∀ j,j<n→128≤at8 l (i+j))→(l.drop i).any f=(l.drop (i+n)).any f
 | 0,i,_=>rfl
 | n+1,i,h=>by
  rw [show i+(n+1)=(i+1)+n from by omega,← any_skip f hf l n (i+1) (fun j hj=>by have:=h (j+1) (by omega); rw [show i+1+j=i+(j+1) from by omega]; exact this)]
  rcases Nat.lt_or_ge i l.length with q | q
  ·rw [List.drop_eq_getElem_cons q,List.any_cons,hf,Bool.false_or]
   rw [← at8_get l i q]; exact h 0 (by omega)
  ·rw [List.drop_of_length_le q,List.drop_of_length_le (by omega)]
theorem any_next (f:UInt8→Bool) (l:Bs) (i:Nat) (h:i<l.length):(l.drop i).any f=(f l[i] || (l.drop (i+1)).any f):=by
 rw [List.drop_eq_getElem_cons h,List.any_cons]

def inSet (cs:Bs) (b:UInt8):Bool:=cs.contains b
def AnyPost (l cs:Bs) (w:World) (e:Ending) (w':World):Prop:=∃ r:Int,e=.returned (.int .i64 r)∧(decide (0≤r)=l.any (inSet cs))∧Kept w w'

set_option maxRecDepth 100000 in
set_option maxHeartbeats 1600000 in
theorem iany_short (l cs:Bs) (w:World) (hcs:Ascii cs) (hl:cs.length≤1000) (h2:2≤cs.length) (h8:l.length≤8) :
  Calls Tryz.prog 118 #[.string (bs l),.string (bs cs)] w (AnyPost l cs w):=by
 have hne1:((cs.length:Int) == 1)=false:=by rw [beq_eq_false_iff_ne]; omega
 have hce:cs.isEmpty=false:=by cases cs <;> simp at h2 ⊢
 have hce':¬ cs=[]:=by cases cs <;> simp at h2 ⊢
 have hf:∀ b:UInt8,128≤(b.toNat:Int)→inSet cs b=false:=fun b hb=>by
  unfold inSet
  rw [Bool.eq_false_iff]
  intro q
  have:=hcs b (by simpa using q)
  omega
 have HF:=Lib.hid hf
 clear hf
 go_enter Tryz.func118,Tryz.ntmps118
 go_wp2_with (go_at_call 159; refine (Tryz.strings_shouldUseASCIISet _ _).mono ?_; rintro e w' ⟨rfl,hw⟩; obtain rfl:=hw.symm)
 go_loopw [9] (fun u wr=>∃ pos:Nat,pos≤l.length∧wr.heap[w.heap.size]? = some (.stringIter (bs l) pos)∧Kept w wr∧Hid (l.any (inSet cs)=(l.drop pos).any (inSet cs))) (fun u wr=>l.length - wr.iterPos w.heap.size)
 case atStart=>exact ⟨0,Nat.zero_le _,World.iter_heap _ _ _,kept_alloc _ _,rfl⟩
 case round =>
  obtain ⟨pos,hp,hit,hk,HA⟩:=hrel
  have hip:wr.iterPos w.heap.size=pos:=by simp [World.iterPos,hit]
  have hsz:w.heap.size<wr.heap.size:=by
   rcases Nat.lt_or_ge w.heap.size wr.heap.size with q | q
   ·exact q
   ·rw [Array.getElem?_eq_none q] at hit; cases hit
  by_cases hlt:pos<l.length
  ·have nx:=fun ty=>run_next_k (P:=Tryz.prog) wr w.heap.size (bs l) pos ty hit hlt
   have hb:=dec_bounds (bs l) pos hlt
   have h0:=at8_lo l pos
   have hit2:∀ p,(wr.iterAt w.heap.size (bs l) p).heap[w.heap.size]? = some (.stringIter (bs l) p):=fun p=>Lib.iterAt_heap wr w.heap.size (bs l) pos p hit
   have hk2:∀ p,Kept w (wr.iterAt w.heap.size (bs l) p):=fun p=>Lib.below_iterAt hk (Nat.le_refl _) (bs l) p
   have HIT:=Lib.hid hit2
   have HK2:=Lib.hid hk2
   have HIP:=Lib.hid hip
   clear hit2 hk2 hip
   by_cases ha:at8 l pos<128
   ·have HN:=Lib.hid (any_next (inSet cs) l pos hlt)
    rw [dec_ascii l pos ha] at nx
    simp only at nx
    have HB:Hid (at8 l pos=(l[pos].toNat:Int)):=at8_get l pos hlt
    generalize l[pos]=x at *
    generalize at8 l pos=c at *
    have HX:Hid (∀ w,Calls Tryz.prog 158 #[.string (bs cs),.int .i32 c] w fun e w'=>e=.returned (.int .i64 (Lib.indexByte cs x))∧w=w'):=by
     intro w
     refine (Tryz.strings_IndexRune_ascii (bs cs) c w h0 ha).mono ?_
     rintro e w' ⟨rfl,rfl⟩
     refine ⟨?_,rfl⟩
     rw [HB.out,Int.toNat_natCast,show x.toNat.toUInt8=x from by simp,bs_data]
    have HC:Hid (decide (0≤Lib.indexByte cs x)=inSet cs x):=indexByte_contains x cs
    have hge:=Lib.indexByte_ge cs x
    generalize Lib.indexByte cs x=r at *
    by_cases hr:0≤r
    ·go_wp2_with fail
     refine (HX.out _).mono ?_
     rintro e w1 ⟨rfl,rfl⟩
     go_wp2_with fail
     go_ret
     exact ⟨_,rfl,by rw [HA.out,HN.out,← HC.out,decide_eq_true hr]; simp,HK2.out _⟩
    ·go_wp2_with fail
     refine (HX.out _).mono ?_
     rintro e w1 ⟨rfl,rfl⟩
     go_wp2_with fail
     go_roundw
     case rel=>exact ⟨pos+1,by omega,HIT.out _,HK2.out _,by show _=_; rw [HA.out,HN.out,← HC.out,decide_eq_false (by omega)]; simp⟩
     case measure=>rw [HIP.out]; have:=HIT.out (pos+1); simp [World.iterPos,this]; omega
   ·have HS:Hid ((l.drop pos).any (inSet cs)=(l.drop (pos+(dec (bs l) pos).2.toNat)).any (inSet cs)):=any_skip (inSet cs) HF.out l _ pos (dec_high (bs l) pos (by rw [byteAt_bs]; omega)).2
    have hc:=(dec_high (bs l) pos (by rw [byteAt_bs]; omega)).1
    obtain ⟨c,n,hd⟩:∃ c n,dec (bs l) pos=(c,n):=⟨(dec (bs l) pos).1,(dec (bs l) pos).2,rfl⟩
    rw [hd] at nx hb HS hc
    simp only at nx hb HS hc
    obtain ⟨b1,b2,b3,b4,b5⟩:=hb
    simp only [bs_size] at b5
    have HX:Hid (∀ w,Calls Tryz.prog 158 #[.string (bs cs),.int .i32 c] w fun e w'=>e=.returned (.int .i64 (-1))∧Kept w w'):=by
     intro w
     by_cases q:c=65533
     ·rw [q]; exact irune_err cs w hcs hl
     ·refine (irune_big cs c w hc b2 (by rw [beq_eq_false_iff_ne]; exact q) hcs hl).mono ?_
      rintro e w' ⟨rfl,n,rfl⟩
      exact ⟨rfl,kept_drewN _ _⟩
    clear hd
    go_wp2_with fail
    refine (HX.out _).mono ?_
    rintro e w1 ⟨rfl,hk1⟩
    have HK1:=Lib.hid hk1
    clear hk1
    go_wp2_with fail
    go_roundw
    case rel =>
     refine ⟨pos+n.toNat,by omega,?_,(HK2.out _).trans HK1.out,by show _=_; rw [HA.out,HS.out]⟩
     rw [HK1.out.block _ (by rw [Lib.iterAt_size]; exact hsz)]
     exact HIT.out _
    case measure =>
     have:=HIT.out (pos+n.toNat)
     rw [← HK1.out.block _ (by rw [Lib.iterAt_size]; exact hsz)] at this
     rw [HIP.out]
     simp [World.iterPos,this]; omega
  ·have nx:=fun ty=>run_next_k_end (P:=Tryz.prog) wr w.heap.size (bs l) pos ty hit hlt
   go_wp2_with fail
   go_ret
   exact ⟨_,rfl,by rw [HA.out,List.drop_of_length_le (by omega)]; rfl,hk⟩

theorem zero_set (w:World):(zeroValue 214).run Tryz.prog w=.ok (.agg (Array.replicate 256 (.bool false))) w:=by kernel_rfl

theorem iany_any (l cs:Bs) (w:World) (hcs:Ascii cs) (hl:cs.length≤1000) (h2:2≤cs.length) (hs:l.length≤1000000000) :
  Calls Tryz.prog 118 #[.string (bs l),.string (bs cs)] w (AnyPost l cs w):=by
 by_cases h8:l.length≤8
 ·exact iany_short l cs w hcs hl h2 h8
 ·refine (Tryz.strings_IndexAny_long zero_set (bs l) (bs cs) w (by simpa using h2) (by simp; omega) (by simp; omega) (by simp; omega) (fun j b hb=>?_)).mono ?_
  ·have:=hcs b (List.mem_of_getElem? (by simpa using hb)); omega
  ·rintro e w' ⟨rfl,rfl⟩
   exact ⟨_,rfl,containsAny_eq cs l,(kept_alloc _ _).trans (kept_alloc _ _)⟩

set_option maxRecDepth 100000 in
theorem cany_any (l cs:Bs) (w:World) (hcs:Ascii cs) (hl:cs.length≤1000) (h2:2≤cs.length) (hs:l.length≤1000000000) :
  Calls Tryz.prog 260 #[.string (bs l),.string (bs cs)] w fun e w'=>e=.returned (.bool (l.any (inSet cs)))∧Kept w w':=by
 go_enter Tryz.func260,Tryz.ntmps260
 go_wp2_with fail
 refine (iany_any l cs _ hcs hl h2 hs).mono ?_
 rintro e w1 ⟨r,rfl,hr,hk⟩
 have HR:=Lib.hid hr
 clear hr
 go_wp2_with fail
 all_goals go_ret
 all_goals exact ⟨ret_bool (by rw [← HR.out]),hk⟩
end Go.Proofs.YtmcoomlkbgiboaaGreatDoor

/- line, barred, part of package person and of its reference. Conditions: lengths. -/
set_option linter.all false
namespace Go.Proofs.YtmcoomlkbgiboaaGreatDoor
open Go.RowKit

def setC:Bs:=[44,59,123,125]
def setN:Bs:=[59,123,125]
def partB (l:Bs):Bool:=lineB l && !(l.any (inSet setC)) && (l == cleanL l)
theorem contains10 (l:Bs) (w:World):Calls Tryz.prog 134 #[.string (bs l),.string (bs [10])] w fun e w'=>e=.returned (.bool (l.contains 10))∧w=w':=by
 refine (Tryz.strings_Contains_one (bs l) 10 w).mono ?_
 rintro e w' ⟨rfl,rfl⟩
 exact ⟨ret_bool (indexByte_contains 10 l),rfl⟩

set_option maxRecDepth 100000 in
set_option maxHeartbeats 800000 in
theorem line_any (l:Bs) (w:World) (hs:l.length≤1000000000) :
  Calls Tryz.prog 259 #[.string (bs l)] w fun e w'=>e=.returned (.bool (lineB l))∧∃ n,w'=w.drewN n:=by
 have HV:=Lib.hid (fun w=>valid_any (bs l) w hs)
 have HL:Hid (lineB l=(validB (bs l) && !(l.contains 10))):=rfl
 have HC:=Lib.hid (fun w=>contains10 l w)
 generalize validB (bs l)=v at *
 generalize l.contains 10=c at *
 cases v
 ·go_enter Tryz.func259,Tryz.ntmps259
  go_wp2_with fail
  refine (HV.out _).mono ?_
  rintro e w1 ⟨rfl,n,rfl⟩
  go_wp2_with fail
  go_ret
  exact ⟨ret_bool (by rw [HL.out]; rfl),n,rfl⟩
 ·go_enter Tryz.func259,Tryz.ntmps259
  go_wp2_with fail
  refine (HV.out _).mono ?_
  rintro e w1 ⟨rfl,n,rfl⟩
  go_wp2_with fail
  refine (HC.out _).mono ?_
  rintro e w1 ⟨rfl,rfl⟩
  cases c
  all_goals
   go_wp2_with fail
   go_ret
   exact ⟨ret_bool (by rw [HL.out]; rfl),n,rfl⟩

theorem asciiC:Ascii setC:=by intro b hb; unfold setC at hb; simp at hb; rcases hb with rfl | rfl | rfl | rfl <;> decide
set_option maxRecDepth 100000 in
set_option maxHeartbeats 800000 in
theorem part_any (l:Bs) (w:World) (hg:Gnd w) (hs:l.length≤100000000) :
  Calls Tryz.prog 218 #[.string (bs l)] w fun e w'=>e=.returned (.bool (partB l))∧Kept w w':=by
 have HV:=Lib.hid (fun w=>line_any l w (by omega))
 have HC:=Lib.hid (fun w=>cany_any l setC w asciiC (by decide) (by decide) (by omega))
 have HK:=Lib.hid (fun w hg=>clean_any l w hg hs)
 have HL:Hid (partB l=(lineB l && !(l.any (inSet setC)) && (l == cleanL l))):=rfl
 have HS:Hid (setC=[44,59,123,125]):=rfl
 generalize lineB l=v at *
 generalize l.any (inSet setC)=c at *
 generalize cleanL l=m at *
 cases v
 ·go_enter Tryz.func218,Tryz.ntmps218
  go_wp2_with fail
  refine (HV.out _).mono ?_
  rintro e w1 ⟨rfl,n,rfl⟩
  go_wp2_with fail
  go_ret
  exact ⟨ret_bool (by rw [HL.out]; rfl),kept_drewN _ _⟩
 ·go_enter Tryz.func218,Tryz.ntmps218
  go_wp2_with fail
  refine (HV.out _).mono ?_
  rintro e w1 ⟨rfl,n,rfl⟩
  have hg1:Gnd (w.drewN n):=hg
  go_wp2_with fail
  rw [← HS.out]
  refine (HC.out _).mono ?_
  rintro e w1 ⟨rfl,hk1⟩
  have hg2:=hg1.kept hk1
  have HK1:=Lib.hid ((kept_drewN w n).trans hk1)
  have HG2:=Lib.hid hg2
  clear hk1 hg2 hg1
  cases c
  ·go_wp2_with fail
   refine (HK.out _ HG2.out).mono ?_
   rintro e w2 ⟨rfl,hk2⟩
   have HK2:=Lib.hid (HK1.out.trans hk2)
   clear hk2
   go_wp2_with fail
   all_goals go_ret
   all_goals exact ⟨ret_bool (by rw [HL.out]; simp [*]),HK2.out⟩
  ·go_wp2_with fail
   go_ret
   exact ⟨ret_bool (by rw [HL.out]; rfl),HK1.out⟩

end Go.Proofs.YtmcoomlkbgiboaaGreatDoor

/- Text of package person and of its reference. Conditions: lengths. -/
set_option linter.all false
namespace Go.Proofs.YtmcoomlkbgiboaaGreatDoor
open Go.RowKit

/-- The text of a person. -/
def textS (f g p s:Bs):Bs :=
 (if p=[] then f else [123] ++ p ++ [125,32] ++ f) ++
 (if s=[] then (if g=[] then [] else [44,32] ++ g) else [44,32] ++ s ++ [44] ++ (if g=[] then [] else [32] ++ g))
/-- The error of a person's text. -/
def textE (f g p s:Bs):Int:=if f=[] then 8 else if partB f && partB g && partB p && partB s then 0 else 17
def textR (f g p s:Bs):Bs:=if textE f g p s=0 then textS f g p s else []

set_option maxRecDepth 100000 in
set_option maxHeartbeats 1600000 in
theorem text_bad0 (f g p s:Bs) (w:World) (hg:Gnd w) (hf:¬ f=[])  (hn:partB f=false) (hs:f.length+g.length+p.length+s.length≤10000000) :
  Calls Tryz.prog 171 #[persV f g p s] w fun e w'=>e=.returned (.tuple #[.string (bs []),.int .i64 17])∧Kept w w':=by
 have hfe:f.isEmpty=false:=by simpa using hf
 go_enter Tryz.func171,Tryz.ntmps171
 go_wp2_with fail
 refine (part_any f _ (hg.kept (kept_alloc _ _)) (by omega)).mono ?_
 rintro e w1 ⟨rfl,hk0⟩
 rw [hn]
 have HK0:=Lib.hid hk0
 obtain ⟨kc,kf⟩:=keep_cell HK0.out
 have hz:w.heap.size<w1.heap.size:=by have:=HK0.out.size; simp at this; omega
 have HK:=Lib.hid ((kept_alloc w _).trans HK0.out)
 have HG:=Lib.hid (hg.kept HK.out)
 clear hk0
 go_wp2_with fail
 go_ret2
 exact ⟨rfl,HK.out⟩

set_option maxRecDepth 100000 in
set_option maxHeartbeats 1600000 in
theorem text_bad1 (f g p s:Bs) (w:World) (hg:Gnd w) (hf:¬ f=[]) (y0:partB f=true) (hn:partB g=false) (hs:f.length+g.length+p.length+s.length≤10000000) :
  Calls Tryz.prog 171 #[persV f g p s] w fun e w'=>e=.returned (.tuple #[.string (bs []),.int .i64 17])∧Kept w w':=by
 have hfe:f.isEmpty=false:=by simpa using hf
 go_enter Tryz.func171,Tryz.ntmps171
 go_wp2_with fail
 refine (part_any f _ (hg.kept (kept_alloc _ _)) (by omega)).mono ?_
 rintro e w1 ⟨rfl,hk0⟩
 rw [y0]
 have HK0:=Lib.hid hk0
 obtain ⟨kc,kf⟩:=keep_cell HK0.out
 have hz:w.heap.size<w1.heap.size:=by have:=HK0.out.size; simp at this; omega
 have HK:=Lib.hid ((kept_alloc w _).trans HK0.out)
 have HG:=Lib.hid (hg.kept HK.out)
 clear hk0
 go_wp2_with fail
 refine (part_any g _ HG.out (by omega)).mono ?_
 rintro e w2 ⟨rfl,hk1⟩
 rw [hn]
 have HK1:=Lib.hid (HK0.out.trans hk1)
 clear kc kf hz HK HK0 HG
 obtain ⟨kc,kf⟩:=keep_cell HK1.out
 have hz:w.heap.size<w2.heap.size:=by have:=HK1.out.size; simp at this; omega
 have HK:=Lib.hid ((kept_alloc w _).trans HK1.out)
 have HG:=Lib.hid (hg.kept HK.out)
 clear hk1
 go_wp2_with fail
 go_ret2
 exact ⟨rfl,HK.out⟩

set_option maxRecDepth 100000 in
set_option maxHeartbeats 1600000 in
theorem text_bad2 (f g p s:Bs) (w:World) (hg:Gnd w) (hf:¬ f=[]) (y0:partB f=true) (y1:partB g=true) (hn:partB p=false) (hs:f.length+g.length+p.length+s.length≤10000000) :
  Calls Tryz.prog 171 #[persV f g p s] w fun e w'=>e=.returned (.tuple #[.string (bs []),.int .i64 17])∧Kept w w':=by
 have hfe:f.isEmpty=false:=by simpa using hf
 go_enter Tryz.func171,Tryz.ntmps171
 go_wp2_with fail
 refine (part_any f _ (hg.kept (kept_alloc _ _)) (by omega)).mono ?_
 rintro e w1 ⟨rfl,hk0⟩
 rw [y0]
 have HK0:=Lib.hid hk0
 obtain ⟨kc,kf⟩:=keep_cell HK0.out
 have hz:w.heap.size<w1.heap.size:=by have:=HK0.out.size; simp at this; omega
 have HK:=Lib.hid ((kept_alloc w _).trans HK0.out)
 have HG:=Lib.hid (hg.kept HK.out)
 clear hk0
 go_wp2_with fail
 refine (part_any g _ HG.out (by omega)).mono ?_
 rintro e w2 ⟨rfl,hk1⟩
 rw [y1]
 have HK1:=Lib.hid (HK0.out.trans hk1)
 clear kc kf hz HK HK0 HG
 obtain ⟨kc,kf⟩:=keep_cell HK1.out
 have hz:w.heap.size<w2.heap.size:=by have:=HK1.out.size; simp at this; omega
 have HK:=Lib.hid ((kept_alloc w _).trans HK1.out)
 have HG:=Lib.hid (hg.kept HK.out)
 clear hk1
 go_wp2_with fail
 refine (part_any p _ HG.out (by omega)).mono ?_
 rintro e w3 ⟨rfl,hk2⟩
 rw [hn]
 have HK2:=Lib.hid (HK1.out.trans hk2)
 clear kc kf hz HK HK1 HG
 obtain ⟨kc,kf⟩:=keep_cell HK2.out
 have hz:w.heap.size<w3.heap.size:=by have:=HK2.out.size; simp at this; omega
 have HK:=Lib.hid ((kept_alloc w _).trans HK2.out)
 have HG:=Lib.hid (hg.kept HK.out)
 clear hk2
 go_wp2_with fail
 go_ret2
 exact ⟨rfl,HK.out⟩

set_option maxRecDepth 100000 in
set_option maxHeartbeats 1600000 in
theorem text_bad3 (f g p s:Bs) (w:World) (hg:Gnd w) (hf:¬ f=[]) (y0:partB f=true) (y1:partB g=true) (y2:partB p=true) (hn:partB s=false) (hs:f.length+g.length+p.length+s.length≤10000000) :
  Calls Tryz.prog 171 #[persV f g p s] w fun e w'=>e=.returned (.tuple #[.string (bs []),.int .i64 17])∧Kept w w':=by
 have hfe:f.isEmpty=false:=by simpa using hf
 go_enter Tryz.func171,Tryz.ntmps171
 go_wp2_with fail
 refine (part_any f _ (hg.kept (kept_alloc _ _)) (by omega)).mono ?_
 rintro e w1 ⟨rfl,hk0⟩
 rw [y0]
 have HK0:=Lib.hid hk0
 obtain ⟨kc,kf⟩:=keep_cell HK0.out
 have hz:w.heap.size<w1.heap.size:=by have:=HK0.out.size; simp at this; omega
 have HK:=Lib.hid ((kept_alloc w _).trans HK0.out)
 have HG:=Lib.hid (hg.kept HK.out)
 clear hk0
 go_wp2_with fail
 refine (part_any g _ HG.out (by omega)).mono ?_
 rintro e w2 ⟨rfl,hk1⟩
 rw [y1]
 have HK1:=Lib.hid (HK0.out.trans hk1)
 clear kc kf hz HK HK0 HG
 obtain ⟨kc,kf⟩:=keep_cell HK1.out
 have hz:w.heap.size<w2.heap.size:=by have:=HK1.out.size; simp at this; omega
 have HK:=Lib.hid ((kept_alloc w _).trans HK1.out)
 have HG:=Lib.hid (hg.kept HK.out)
 clear hk1
 go_wp2_with fail
 refine (part_any p _ HG.out (by omega)).mono ?_
 rintro e w3 ⟨rfl,hk2⟩
 rw [y2]
 have HK2:=Lib.hid (HK1.out.trans hk2)
 clear kc kf hz HK HK1 HG
 obtain ⟨kc,kf⟩:=keep_cell HK2.out
 have hz:w.heap.size<w3.heap.size:=by have:=HK2.out.size; simp at this; omega
 have HK:=Lib.hid ((kept_alloc w _).trans HK2.out)
 have HG:=Lib.hid (hg.kept HK.out)
 clear hk2
 go_wp2_with fail
 refine (part_any s _ HG.out (by omega)).mono ?_
 rintro e w4 ⟨rfl,hk3⟩
 rw [hn]
 have HK3:=Lib.hid (HK2.out.trans hk3)
 clear kc kf hz HK HK2 HG
 obtain ⟨kc,kf⟩:=keep_cell HK3.out
 have hz:w.heap.size<w4.heap.size:=by have:=HK3.out.size; simp at this; omega
 have HK:=Lib.hid ((kept_alloc w _).trans HK3.out)
 have HG:=Lib.hid (hg.kept HK.out)
 clear hk3
 go_wp2_with fail
 go_ret2
 exact ⟨rfl,HK.out⟩

set_option maxRecDepth 100000 in
set_option maxHeartbeats 3200000 in
theorem text_ok (f g p s:Bs) (w:World) (hg:Gnd w) (hf:¬ f=[]) (y0:partB f=true) (y1:partB g=true) (y2:partB p=true) (y3:partB s=true) (hs:f.length+g.length+p.length+s.length≤10000000) :
  Calls Tryz.prog 171 #[persV f g p s] w fun e w'=>e=.returned (.tuple #[.string (bs (textS f g p s)),.int .i64 0])∧Kept w w':=by
 have hfe:f.isEmpty=false:=by simpa using hf
 go_enter Tryz.func171,Tryz.ntmps171
 go_wp2_with fail
 refine (part_any f _ (hg.kept (kept_alloc _ _)) (by omega)).mono ?_
 rintro e w1 ⟨rfl,hk0⟩
 rw [y0]
 have HK0:=Lib.hid hk0
 obtain ⟨kc,kf⟩:=keep_cell HK0.out
 have hz:w.heap.size<w1.heap.size:=by have:=HK0.out.size; simp at this; omega
 have HK:=Lib.hid ((kept_alloc w _).trans HK0.out)
 have HG:=Lib.hid (hg.kept HK.out)
 clear hk0
 go_wp2_with fail
 refine (part_any g _ HG.out (by omega)).mono ?_
 rintro e w2 ⟨rfl,hk1⟩
 rw [y1]
 have HK1:=Lib.hid (HK0.out.trans hk1)
 clear kc kf hz HK HK0 HG
 obtain ⟨kc,kf⟩:=keep_cell HK1.out
 have hz:w.heap.size<w2.heap.size:=by have:=HK1.out.size; simp at this; omega
 have HK:=Lib.hid ((kept_alloc w _).trans HK1.out)
 have HG:=Lib.hid (hg.kept HK.out)
 clear hk1
 go_wp2_with fail
 refine (part_any p _ HG.out (by omega)).mono ?_
 rintro e w3 ⟨rfl,hk2⟩
 rw [y2]
 have HK2:=Lib.hid (HK1.out.trans hk2)
 clear kc kf hz HK HK1 HG
 obtain ⟨kc,kf⟩:=keep_cell HK2.out
 have hz:w.heap.size<w3.heap.size:=by have:=HK2.out.size; simp at this; omega
 have HK:=Lib.hid ((kept_alloc w _).trans HK2.out)
 have HG:=Lib.hid (hg.kept HK.out)
 clear hk2
 go_wp2_with fail
 refine (part_any s _ HG.out (by omega)).mono ?_
 rintro e w4 ⟨rfl,hk3⟩
 rw [y3]
 have HK3:=Lib.hid (HK2.out.trans hk3)
 clear kc kf hz HK HK2 HG
 obtain ⟨kc,kf⟩:=keep_cell HK3.out
 have hz:w.heap.size<w4.heap.size:=by have:=HK3.out.size; simp at this; omega
 have HK:=Lib.hid ((kept_alloc w _).trans HK3.out)
 have HG:=Lib.hid (hg.kept HK.out)
 clear hk3
 by_cases hp:p=[] <;> by_cases hs':s=[] <;> by_cases hg':g=[]
 all_goals
  first | subst hp | (have hpe:p.isEmpty=false:=by simpa using hp)
  first | subst hs' | (have hse:s.isEmpty=false:=by simpa using hs')
  first | subst hg' | (have hge:g.isEmpty=false:=by simpa using hg')
  try simp only [List.length_nil,Nat.add_zero,Nat.zero_add] at hs
  go_wp2_with fail
  go_ret2
  refine ⟨?_,HK.out⟩
  refine congrArg (fun x=>Ending.returned (.tuple #[.string (bs x),.int .i64 0])) ?_
  simp [textS, *]

set_option maxRecDepth 100000 in
theorem text_any (f g p s:Bs) (w:World) (hg:Gnd w) (hs:f.length+g.length+p.length+s.length≤10000000) :
  Calls Tryz.prog 171 #[persV f g p s] w fun e w'=>e=.returned (.tuple #[.string (bs (textR f g p s)),.int .i64 (textE f g p s)])∧Kept w w':=by
 by_cases hf:f=[]
 ·have e1:textE f g p s=8:=by unfold textE; rw [if_pos hf]
  have e2:textR f g p s=[]:=by unfold textR; rw [e1]; rfl
  rw [e1,e2]
  clear e1 e2
  subst hf
  go_enter Tryz.func171,Tryz.ntmps171
  go_wp2_with fail
  go_ret2
  exact ⟨rfl,kept_alloc _ _⟩
 have hb:∀ q:Bool,(partB f && partB g && partB p && partB s)=q→textE f g p s=if q then 0 else 17:=by
  intro q h; unfold textE; rw [if_neg hf,h]
 have hr:textE f g p s=17→textR f g p s=[]:=by intro h; unfold textR; rw [h]; rfl
 cases h0:partB f
 ·have e:=hb false (by rw [h0]; rfl); rw [if_neg (by decide)] at e; rw [e,hr e]
  exact text_bad0 f g p s w hg hf h0 hs
 cases h1:partB g
 ·have e:=hb false (by rw [h0,h1]; rfl); rw [if_neg (by decide)] at e; rw [e,hr e]
  exact text_bad1 f g p s w hg hf h0 h1 hs
 cases h2:partB p
 ·have e:=hb false (by rw [h0,h1,h2]; rfl); rw [if_neg (by decide)] at e; rw [e,hr e]
  exact text_bad2 f g p s w hg hf h0 h1 h2 hs
 cases h3:partB s
 ·have e:=hb false (by rw [h0,h1,h2,h3]; rfl); rw [if_neg (by decide)] at e; rw [e,hr e]
  exact text_bad3 f g p s w hg hf h0 h1 h2 h3 hs
 ·have e:=hb true (by rw [h0,h1,h2,h3]; rfl); rw [if_pos rfl] at e
  have e2:textR f g p s=textS f g p s:=by unfold textR; rw [e]; rfl
  rw [e,e2]
  exact text_ok f g p s w hg hf h0 h1 h2 h3 hs

end Go.Proofs.YtmcoomlkbgiboaaGreatDoor
