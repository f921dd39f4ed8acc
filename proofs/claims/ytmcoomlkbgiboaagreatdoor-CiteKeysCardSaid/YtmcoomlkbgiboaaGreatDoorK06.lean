/- chars.Valid and the reference's Valid answer the same of any text: plain law and walks. No condition but the length. -/
import Derived.Test.YtmcoomlkbgiboaaGreatDoorK05
import Derived.Test.YtmcoomlkbgiboaaGreatDoorK01
import Derived.Test.YtmcoomlkbgiboaaGreatDoorK02
import Derived.Lib.OthersKept

set_option linter.all false
namespace Go.Proofs.YtmcoomlkbgiboaaGreatDoor
open Go.RowKit

theorem moreOf_hi (s:ByteArray) (i:Nat) (l h:Int) (hh:h≤191):moreOf s i l h≤63:=by unfold moreOf; split <;> omega
theorem dec_bounds (s:ByteArray) (i:Nat) (hi:i<s.size):0≤(dec s i).1∧(dec s i).1≤2000000∧1≤(dec s i).2∧(dec s i).2≤4∧(i:Int)+(dec s i).2≤s.size:=by
 have h0:=byteAt_lo s i
 have m1:∀ k l h,0≤moreOf s k l h→k<s.size:=fun k l h q=>(more_yes q).1
 have hh:∀ k l h,h≤191→moreOf s k l h≤63:=fun k l h q=>moreOf_hi s k l h q
 unfold dec
 split
 ·simp only; omega
 split
 ·split
  ·rename_i q
   have:=m1 _ _ _ q
   have:=hh (i+1) 128 191 (by omega)
   simp only; omega
  ·simp only; omega
 split
 ·unfold three
  split
  ·simp only; omega
  ·rename_i q
   have a1:=m1 (i+2) 128 191 (by omega)
   have a2:=hh (i+1) (low3 (byteAt s i)) (high3 (byteAt s i)) (by unfold high3; split <;> omega)
   have a3:=hh (i+2) 128 191 (by omega)
   simp only; omega
 split
 ·unfold four
  split
  ·simp only; omega
  ·rename_i q
   have a1:=m1 (i+3) 128 191 (by omega)
   have a2:=hh (i+1) (low4 (byteAt s i)) (high4 (byteAt s i)) (by unfold high4; split <;> omega)
   have a3:=hh (i+2) 128 191 (by omega)
   have a4:=hh (i+3) 128 191 (by omega)
   simp only; omega
 ·simp only; omega

def goodPt (p:Int × Int):Bool:=cleanOf p.1 && !(p.1 == 65533 && p.2 == 1)
theorem unclean_clean (c:Int):uncleanOf c = !cleanOf c:=by
 unfold uncleanOf cleanOf
 rw [Bool.eq_iff_iff]; simp; omega
def validFrom (s:ByteArray) (i:Nat):Bool :=
 if i<s.size then goodPt (dec s i) && validFrom s (i+(dec s i).2.toNat) else true
termination_by s.size - i
decreasing_by have:=(dec_bounds s i (by assumption)).2.2.1; omega
theorem validFrom_in (s:ByteArray) (i:Nat) (h:i<s.size):validFrom s i=(goodPt (dec s i) && validFrom s (i+(dec s i).2.toNat)):=by rw [validFrom,if_pos h]
theorem validFrom_out (s:ByteArray) (i:Nat) (h:¬ i<s.size):validFrom s i=true:=by rw [validFrom,if_neg h]
def validB (s:ByteArray):Bool:=validFrom s 0
theorem validB_start (s:ByteArray):Hid (validB s=validFrom s 0):=by unfold Hid validB; exact Eq.refl _

theorem drewN_more {w:World} {a b:Nat}:∃ n,(w.drewN a).drewN b=w.drewN n:=⟨a+b,by simp [World.drewN,Nat.add_assoc]⟩

set_option maxRecDepth 100000 in
set_option maxHeartbeats 1600000 in
theorem valid_any (s:ByteArray) (w:World) (hs:s.size≤1000000000) :
  Calls Tryz.prog 133 #[.string s] w fun e w'=>e=.returned (.bool (validB s))∧∃ n,w'=w.drewN n:=by
 go_enter Tryz.func133,Tryz.ntmps133
 go_wp2
 go_loopw [3] (fun i wr=>∃ k m:Nat,k≤s.size∧i=.int .i64 k∧Hid (validB s=validFrom s k)∧wr=w.drewN m) (fun i _=>s.size - (intOf i).toNat)
 case atStart=>exact ⟨0,0,Nat.zero_le _,rfl,validB_start s,rfl⟩
 case round =>
  obtain ⟨k,m,hk,rfl,HV,rfl⟩:=hrel
  by_cases hlt:k<s.size
  ·have hb:=dec_bounds s k hlt
   have HI:Hid (validFrom s k=(goodPt (dec s k) && validFrom s (k+(dec s k).2.toNat))):=validFrom_in s k hlt
   have HP:∀ w,Calls Tryz.prog 180 #[.string s,.int .i64 k] w (NextPost s k w):=fun w=>next_any s k w hs hlt
   unfold NextPost at HP
   have HP:=Lib.hid HP
   obtain ⟨c,n,hd⟩:∃ c n,dec s k=(c,n):=⟨_,_,rfl⟩
   rw [hd] at hb HI HP
   simp only at hb HI HP
   clear hd
   obtain ⟨b1,b2,b3,b4,b5⟩:=hb
   by_cases q1:c=65533∧n=1
   ·have t1:(c == 65533)=true:=beq_iff_eq.2 q1.1
    have t2:(n == 1)=true:=beq_iff_eq.2 q1.2
    have HG:Hid (goodPt (c,n)=false):=by show _=_; simp only [goodPt,t1,t2,Bool.and_self,Bool.not_true,Bool.and_false]
    clear q1
    go_wp2_with fail
    refine (HP.out _).mono ?_
    rintro e w' ⟨rfl,nq,rfl⟩
    go_wp2_with fail
    go_ret
    exact ⟨ret_bool (by rw [HV.out,HI.out,HG.out]; rfl),_,rfl⟩
   ·have tt:(c == 65533)=false∨(c == 65533)=true∧(n == 1)=false:=by
     simp only [beq_iff_eq,beq_eq_false_iff_ne,ne_eq]; omega
    have HG:Hid (goodPt (c,n) = !uncleanOf c):=by
     show _=_
     rw [unclean_clean,Bool.not_not]
     rcases tt with t1 | ⟨t1,t2⟩
     ·simp only [goodPt,t1,Bool.false_and,Bool.not_false,Bool.and_true]
     ·simp only [goodPt,t1,t2,Bool.and_false,Bool.not_false,Bool.and_true]
    clear q1
    have HN:Hid (k+n.toNat≤s.size):=by show _≤_; omega
    obtain ⟨n,rfl⟩:∃ n':Nat,n=n':=⟨n.toNat,by omega⟩
    obtain ⟨u,hu⟩:∃ u,uncleanOf c=u:=⟨_,rfl⟩
    rw [hu] at HG
    cases u
    all_goals
     rcases tt with t1 | ⟨t1,t2⟩
     all_goals
      go_wp2_with fail
      refine (HP.out _).mono ?_
      rintro e w' ⟨rfl,nq,rfl⟩
      go_wp2_with (go_at_call 181; refine (unclean_any _ _).mono ?_; rintro e w' ⟨rfl,rfl⟩)
      first
      | (
         go_ret
         exact ⟨ret_bool (by rw [HV.out,HI.out,HG.out]; rfl),_,rfl⟩)
      | (
         go_roundw
         case rel=>exact ⟨k+n,_,by have:=HN.out; simp at this; exact this,by go_num,by show _=_; rw [HV.out,HI.out,HG.out]; simp,rfl⟩
         case measure=>simp [intOf]; omega)
  ·go_wp2_with fail
   go_ret
   exact ⟨ret_bool (by rw [HV.out,validFrom_out s k hlt]),_,rfl⟩
end Go.Proofs.YtmcoomlkbgiboaaGreatDoor

/- The reference's Points and Valid: the code points of any text, and whether it is clean. No condition but the length. -/
set_option linter.all false
namespace Go.Proofs.YtmcoomlkbgiboaaGreatDoor
open Go.RowKit

def pointsFrom (s:ByteArray) (i:Nat):List (Int × Int) :=
 if i<s.size then dec s i :: pointsFrom s (i+(dec s i).2.toNat) else []
termination_by s.size - i
decreasing_by have:=(dec_bounds s i (by assumption)).2.2.1; omega
theorem pointsFrom_in (s:ByteArray) (i:Nat) (h:i<s.size):pointsFrom s i=dec s i :: pointsFrom s (i+(dec s i).2.toNat):=by rw [pointsFrom,if_pos h]
theorem pointsFrom_out (s:ByteArray) (i:Nat) (h:¬ i<s.size):pointsFrom s i=[]:=by rw [pointsFrom,if_neg h]
def points (s:ByteArray):List (Int × Int):=pointsFrom s 0
theorem pts_len (s:ByteArray) (i:Nat):(pointsFrom s i).length≤s.size - i:=by
 rcases Nat.lt_or_ge i s.size with h | h
 ·have hb:=(dec_bounds s i h)
  have ih:=pts_len s (i+(dec s i).2.toNat)
  rw [pointsFrom_in s i h,List.length_cons]
  omega
 ·rw [pointsFrom_out s i (by omega)]; simp
termination_by s.size - i
decreasing_by have:=(dec_bounds s i (by assumption)).2.2.1; omega

end Go.Proofs.YtmcoomlkbgiboaaGreatDoor

/- A range over a string, with whatever memory beside its iterator. No condition. -/
set_option linter.all false
namespace Go.Proofs.YtmcoomlkbgiboaaGreatDoor
open Go.RowKit

theorem run_next_k {P:Program} (w:World) (k:Nat) (s:ByteArray) (pos:Nat) (ty:TypeId) (hk:w.heap[k]? = some (.stringIter s pos)) (h:pos<s.size) :
  (Instr.next (.pointer (some ⟨k,0,none⟩)) true ty).run P w=.ok (.tuple #[.bool true,.int .i64 pos,.int .i32 (dec s pos).1]) (w.iterAt k s (pos+(dec s pos).2.toNat)):=by
 rw [dec_eq]
 simp only [Instr.next,getObj,setObj,Sem.run_bind,Sem.run,hk,Result.andThen,h,if_true,World.iterAt,Int.toNat_natCast]
 simp [goInt,Sem.run,hk]
theorem run_next_k_end {P:Program} (w:World) (k:Nat) (s:ByteArray) (pos:Nat) (ty:TypeId) (hk:w.heap[k]? = some (.stringIter s pos)) (h:¬ pos<s.size) :
  (Instr.next (.pointer (some ⟨k,0,none⟩)) true ty).run P w=.ok (.tuple #[.bool false]) w:=by
 simp [Instr.next,getObj,Sem.run,hk,h]
end Go.Proofs.YtmcoomlkbgiboaaGreatDoor

/- strings.ContainsAny at every text and a short set of ASCII letters. Conditions: lengths. -/
set_option linter.all false
namespace Go.Proofs.YtmcoomlkbgiboaaGreatDoor
open Go.RowKit

def encL (r:Int):Bs:=(Utf8.encode r).data.toList
theorem encode_bs (r:Int):Utf8.encode r=bs (encL r):=rfl
theorem ofNat_big (n:Nat) (h:n<256) (k:128≤n):128≤((UInt8.ofNat n).toNat:Int):=by
 rw [UInt8.toNat_ofNat',Nat.mod_eq_of_lt h]; omega
theorem encL_big (r:Int) (h:128≤r):2≤(encL r).length∧(encL r).length≤4∧∀ b∈encL r,128≤(b.toNat:Int):=by
 have hc:128≤(if Utf8.valid r then r.toNat else Utf8.runeError)∧(if Utf8.valid r then r.toNat else Utf8.runeError)≤1114111:=by
  split
  ·rename_i hv; unfold Utf8.valid at hv; simp only [Bool.or_eq_true,Bool.and_eq_true,decide_eq_true_eq] at hv; omega
  ·unfold Utf8.runeError; omega
 unfold encL Utf8.encode
 generalize (if Utf8.valid r then r.toNat else Utf8.runeError)=c at *
 simp only
 rw [if_neg (by omega)]
 split
 ·refine ⟨by simp,by simp,?_⟩
  intro b hb
  simp only [List.mem_cons,List.not_mem_nil,or_false] at hb
  rcases hb with rfl | rfl <;> exact ofNat_big _ (by omega) (by omega)
 split
 ·refine ⟨by simp,by simp,?_⟩
  intro b hb
  simp only [List.mem_cons,List.not_mem_nil,or_false] at hb
  rcases hb with rfl | rfl | rfl <;> exact ofNat_big _ (by omega) (by omega)
 ·refine ⟨by simp,by simp,?_⟩
  intro b hb
  simp only [List.mem_cons,List.not_mem_nil,or_false] at hb
  rcases hb with rfl | rfl | rfl | rfl <;> exact ofNat_big _ (by omega) (by omega)
theorem at8_mem (l:Bs) (j:Nat) (h:j<l.length):∃ b∈l,at8 l j=(b.toNat:Int):=⟨l[j],List.getElem_mem h,at8_get l j h⟩
def Ascii (cs:Bs):Prop:=∀ b∈cs,(b.toNat:Int)<128
theorem indexByte_not (c:UInt8) (l:Bs) (h:c ∉ l):Lib.indexByte l c = -1:=by
 have h1:=indexByte_contains c l
 have h2:=Lib.indexByte_ge l c
 have h3:l.contains c=false:=by simpa using h
 rw [h3] at h1
 simp at h1; omega

set_option maxRecDepth 100000 in
set_option maxHeartbeats 1600000 in
theorem irune_big (cs:Bs) (r:Int) (w:World) (hr:128≤r) (hr2:r≤2000000) (hne:(r == 65533)=false) (hcs:Ascii cs) (hl:cs.length≤1000) :
  Calls Tryz.prog 158 #[.string (bs cs),.int .i32 r] w fun e w'=>e=.returned (.int .i64 (-1))∧∃ n,w'=w.drewN n:=by
 obtain ⟨v,hv⟩:∃ v,Lib.validRune r=v:=⟨_,rfl⟩
 cases v
 ·go_enter Tryz.func158,Tryz.ntmps158
  go_wp2_with (go_at_call 206; refine (Tryz.utf8_ValidRune _ _).mono ?_; rintro e w' ⟨rfl,rfl⟩)
  go_ret
  exact ⟨rfl,0,rfl⟩
 ·obtain ⟨e1,e2,e3⟩:=encL_big r hr
  have hen:=encode_bs r
  generalize encL r=rs at *
  have hlast:rs.length - 1<rs.length:=by omega
  obtain ⟨b,hb,hbe⟩:=at8_mem rs (rs.length - 1) hlast
  have i0:=run_ix (P:=Tryz.prog) (t:=9) Tryz.underlying9 rs (rs.length - 1) hlast (rs.length - 1) (by omega)
  have hbig:=e3 b hb
  have hbl:(b.toNat:Int)<256:=by have:=b.toNat_lt; omega
  have hnot:∀ k,Lib.indexByte (cs.drop k) b = -1:=fun k=>indexByte_not b _ (fun q=>by have:=hcs b (List.mem_of_mem_drop q); omega)
  obtain ⟨c,hc⟩:∃ c:Int,c=b.toNat:=⟨_,rfl⟩
  rw [hbe,← hc] at i0
  have hb1:∀ x:Bs,Lib.indexByte x b = -1→∀ w,Calls Tryz.prog 131 #[.string (bs x),.int .u8 c] w fun e w'=>e=.returned (.int .i64 (-1))∧w'=w:=by
   intro x hx w
   refine (Tryz.strings_IndexByte (bs x) c w).mono ?_
   rintro e w' ⟨rfl,rfl⟩
   refine ⟨?_,rfl⟩
   rw [hc,Int.toNat_natCast,show b.toNat.toUInt8=b from by simp,bs_data,hx]
  have HB:=Lib.hid hb1
  rw [← hc] at hbig hbl
  clear hbe hb e3 hc hb1
  by_cases hlt:rs.length - 1<cs.length
  ·have i1:=run_ix (P:=Tryz.prog) (t:=9) Tryz.underlying9 cs (rs.length - 1) hlt (rs.length - 1) (by omega)
   have hsm:at8 cs (rs.length - 1)<128:=by obtain ⟨b',hb',e⟩:=at8_mem cs _ hlt; rw [e]; exact hcs b' hb'
   have hsm0:=at8_lo cs (rs.length - 1)
   generalize at8 cs (rs.length - 1)=c' at *
   have sl:=run_from (P:=Tryz.prog) (t:=9) Tryz.underlying9 cs (rs.length) (by omega) (rs.length - 1+1) (by omega) _ rfl
   have sl2:=run_from (P:=Tryz.prog) (t:=9) Tryz.underlying9 cs (rs.length) (by omega) (rs.length) rfl _ rfl
   have HN:=Lib.hid (HB.out _ (hnot rs.length))
   clear hnot HB
   go_enter Tryz.func158,Tryz.ntmps158
   go_wp2_with (first | (go_at_call 206; refine (Tryz.utf8_ValidRune _ _).mono ?_; rintro e w' ⟨rfl,rfl⟩))
   go_step3
   go_wp2_with (first | (go_at_call 206; refine (Tryz.utf8_ValidRune _ _).mono ?_; rintro e w' ⟨rfl,rfl⟩))
   refine wp_loop_rounds 1 ?_
   rw [rounds_succ]
   go_wp2_with fail
   go_step3
   go_wp2_with fail
   go_quiet (fail)
   obtain ⟨w2,hw2⟩:∃ x,x=w'.drewN nq:=⟨_,rfl⟩
   rw [← hw2]
   have HW2:=Lib.hid hw2
   clear hw2
   go_wp2_with fail
   have hsum:IntKind.i64.wrap (↑(List.length rs) - 1+1) = ↑(List.length rs):=IntWalk.i64_in _ (by omega) |>.trans (by omega)
   have hsum2:(0:Int) ≤ ↑(List.length rs):=by omega
   go_quiet ((go_at_call 131; exact Calls.quiet_of_same (HN.out _)))
   go_wp2_with fail
   rw [Exit.noGoto_ret]
   go_wp2_with fail
   rw [Exit.noGoto_ret]
   go_wp2_with fail
   go_ret
   exact ⟨rfl,by rw [HW2.out]; exact drewN_more⟩
  ·go_enter Tryz.func158,Tryz.ntmps158
   go_wp2_with (go_at_call 206; refine (Tryz.utf8_ValidRune _ _).mono ?_; rintro e w' ⟨rfl,rfl⟩)
   go_step3
   go_wp2_with fail
   refine wp_loop_rounds 1 ?_
   rw [rounds_succ]
   go_wp2_with fail
   try rw [Exit.noGoto_ret]
   try rw [Exit.noGoto_ret]
   go_ret
   exact ⟨rfl,0,rfl⟩

theorem dec_ascii (l:Bs) (i:Nat) (h:at8 l i<128):dec (bs l) i=(at8 l i,1):=by unfold dec; rw [byteAt_bs,if_pos h]
theorem next_iter {P:Program} (w:World) (l:Bs) (pos:Nat) (ty:TypeId) (h:pos<l.length) (c n:Int) (hd:dec (bs l) pos=(c,n)) :
  (Instr.next (.pointer (some ⟨w.heap.size,0,none⟩)) true ty).run P (w.iter (bs l) pos)=.ok (.tuple #[.bool true,.int .i64 pos,.int .i32 c]) (w.iter (bs l) (pos+n.toNat)):=by
 rw [run_next_any w (bs l) pos ty h]
 rw [dec_eq] at hd
 obtain ⟨h1,h2⟩:=Prod.mk.injEq _ _ _ _ ▸ hd
 rw [h1,← h2,Int.toNat_natCast]

set_option maxRecDepth 100000 in
set_option maxHeartbeats 1600000 in
theorem irune_err (cs:Bs) (w:World) (hcs:Ascii cs) (hl:cs.length≤1000) :
  Calls Tryz.prog 158 #[.string (bs cs),.int .i32 65533] w fun e w'=>e=.returned (.int .i64 (-1))∧Kept w w':=by
 go_enter Tryz.func158,Tryz.ntmps158
 go_wp2_with fail
 go_loopw [5] (fun u wr=>∃ pos:Nat,pos≤cs.length∧wr=w.iter (bs cs) pos) (fun u wr=>cs.length - wr.iterPos w.heap.size)
 case atStart=>exact ⟨0,Nat.zero_le _,rfl⟩
 case round =>
  obtain ⟨pos,hp,rfl⟩:=hrel
  by_cases hlt:pos<cs.length
  ·have hsm:at8 cs pos<128:=by obtain ⟨b',hb',e⟩:=at8_mem cs _ hlt; rw [e]; exact hcs b' hb'
   have hsm0:=at8_lo cs pos
   have nx:=fun ty=>next_iter (P:=Tryz.prog) w cs pos ty hlt _ _ (dec_ascii cs pos hsm)
   generalize at8 cs pos=c at *
   have hne:(c == 65533)=false:=by rw [beq_eq_false_iff_ne]; omega
   go_wp2_with fail
   go_roundw
   case rel=>exact ⟨pos+1,by omega,rfl⟩
   case measure=>simp; omega
  ·have nx:=fun ty=>run_next_end (P:=Tryz.prog) w (bs cs) pos ty hlt
   go_wp2_with fail
   go_ret
   exact ⟨rfl,kept_alloc _ _⟩
end Go.Proofs.YtmcoomlkbgiboaaGreatDoor
