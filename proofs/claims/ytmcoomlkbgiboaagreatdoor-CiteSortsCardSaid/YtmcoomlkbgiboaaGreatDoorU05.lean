/- chars.Valid and the reference's Valid answer the same of any text: plain law and walks. No condition but the length. -/
import Derived.Test.YtmcoomlkbgiboaaGreatDoorU04
import Derived.Test.YtmcoomlkbgiboaaGreatDoorU01
import Derived.Test.YtmcoomlkbgiboaaGreatDoorU02
import Derived.Lib.OthersKept

set_option linter.all false
namespace Go.Proofs.YtmcoomlkbgiboaaGreatDoor
open Go.RowKit

theorem moreOf_hi (s:ByteArray) (i:Nat) (l h:Int) (hh:h≤191):moreOf s i l h≤63:=by unfold moreOf; split <;> omega
theorem dec_bounds (s:ByteArray) (i:Nat) (hi:i<s.size):0≤(dec s i).1∧(dec s i).1≤2000000∧1≤(dec s i).2∧(dec s i).2≤4∧(i:Int)+(dec s i).2≤s.size:=by
 have h0:=byteAt_lo s i
 have m1:∀ k l h,0≤moreOf s k l h→k<s.size:=fun k l h q=>(more_yes q).1
 have hh:∀ k l h,h≤191→moreOf s k l h≤63:=fun k l h q=>moreOf_hi s k l h q
 unfold dec
 split
 ·simp only; omega
 split
 ·split
  ·rename_i q
   have:=m1 _ _ _ q
   have:=hh (i+1) 128 191 (by omega)
   simp only; omega
  ·simp only; omega
 split
 ·unfold three
  split
  ·simp only; omega
  ·rename_i q
   have a1:=m1 (i+2) 128 191 (by omega)
   have a2:=hh (i+1) (low3 (byteAt s i)) (high3 (byteAt s i)) (by unfold high3; split <;> omega)
   have a3:=hh (i+2) 128 191 (by omega)
   simp only; omega
 split
 ·unfold four
  split
  ·simp only; omega
  ·rename_i q
   have a1:=m1 (i+3) 128 191 (by omega)
   have a2:=hh (i+1) (low4 (byteAt s i)) (high4 (byteAt s i)) (by unfold high4; split <;> omega)
   have a3:=hh (i+2) 128 191 (by omega)
   have a4:=hh (i+3) 128 191 (by omega)
   simp only; omega
 ·simp only; omega

def goodPt (p:Int × Int):Bool:=cleanOf p.1 && !(p.1 == 65533 && p.2 == 1)
theorem unclean_clean (c:Int):uncleanOf c = !cleanOf c:=by
 unfold uncleanOf cleanOf
 rw [Bool.eq_iff_iff]; simp; omega
def validFrom (s:ByteArray) (i:Nat):Bool :=
 if i<s.size then goodPt (dec s i) && validFrom s (i+(dec s i).2.toNat) else true
termination_by s.size - i
decreasing_by have:=(dec_bounds s i (by assumption)).2.2.1; omega
theorem validFrom_in (s:ByteArray) (i:Nat) (h:i<s.size):validFrom s i=(goodPt (dec s i) && validFrom s (i+(dec s i).2.toNat)):=by rw [validFrom,if_pos h]
theorem validFrom_out (s:ByteArray) (i:Nat) (h:¬ i<s.size):validFrom s i=true:=by rw [validFrom,if_neg h]
def validB (s:ByteArray):Bool:=validFrom s 0
theorem validB_start (s:ByteArray):Hid (validB s=validFrom s 0):=by unfold Hid validB; exact Eq.refl _

theorem drewN_more {w:World} {a b:Nat}:∃ n,(w.drewN a).drewN b=w.drewN n:=⟨a+b,by simp [World.drewN,Nat.add_assoc]⟩

set_option maxRecDepth 100000 in
set_option maxHeartbeats 1600000 in
theorem valid_any (s:ByteArray) (w:World) (hs:s.size≤1000000000) :
  Calls Tryz.prog 133 #[.string s] w fun e w'=>e=.returned (.bool (validB s))∧∃ n,w'=w.drewN n:=by
 go_enter Tryz.func133,Tryz.ntmps133
 go_wp2
 go_loopw [3] (fun i wr=>∃ k m:Nat,k≤s.size∧i=.int .i64 k∧Hid (validB s=validFrom s k)∧wr=w.drewN m) (fun i _=>s.size - (intOf i).toNat)
 case atStart=>exact ⟨0,0,Nat.zero_le _,rfl,validB_start s,rfl⟩
 case round =>
  obtain ⟨k,m,hk,rfl,HV,rfl⟩:=hrel
  by_cases hlt:k<s.size
  ·have hb:=dec_bounds s k hlt
   have HI:Hid (validFrom s k=(goodPt (dec s k) && validFrom s (k+(dec s k).2.toNat))):=validFrom_in s k hlt
   have HP:∀ w,Calls Tryz.prog 180 #[.string s,.int .i64 k] w (NextPost s k w):=fun w=>next_any s k w hs hlt
   unfold NextPost at HP
   have HP:=Lib.hid HP
   obtain ⟨c,n,hd⟩:∃ c n,dec s k=(c,n):=⟨_,_,rfl⟩
   rw [hd] at hb HI HP
   simp only at hb HI HP
   clear hd
   obtain ⟨b1,b2,b3,b4,b5⟩:=hb
   by_cases q1:c=65533∧n=1
   ·have t1:(c == 65533)=true:=beq_iff_eq.2 q1.1
    have t2:(n == 1)=true:=beq_iff_eq.2 q1.2
    have HG:Hid (goodPt (c,n)=false):=by show _=_; simp only [goodPt,t1,t2,Bool.and_self,Bool.not_true,Bool.and_false]
    clear q1
    go_wp2_with fail
    refine (HP.out _).mono ?_
    rintro e w' ⟨rfl,nq,rfl⟩
    go_wp2_with fail
    go_ret
    exact ⟨ret_bool (by rw [HV.out,HI.out,HG.out]; rfl),_,rfl⟩
   ·have tt:(c == 65533)=false∨(c == 65533)=true∧(n == 1)=false:=by
     simp only [beq_iff_eq,beq_eq_false_iff_ne,ne_eq]; omega
    have HG:Hid (goodPt (c,n) = !uncleanOf c):=by
     show _=_
     rw [unclean_clean,Bool.not_not]
     rcases tt with t1 | ⟨t1,t2⟩
     ·simp only [goodPt,t1,Bool.false_and,Bool.not_false,Bool.and_true]
     ·simp only [goodPt,t1,t2,Bool.and_false,Bool.not_false,Bool.and_true]
    clear q1
    have HN:Hid (k+n.toNat≤s.size):=by show _≤_; omega
    obtain ⟨n,rfl⟩:∃ n':Nat,n=n':=⟨n.toNat,by omega⟩
    obtain ⟨u,hu⟩:∃ u,uncleanOf c=u:=⟨_,rfl⟩
    rw [hu] at HG
    cases u
    all_goals
     rcases tt with t1 | ⟨t1,t2⟩
     all_goals
      go_wp2_with fail
      refine (HP.out _).mono ?_
      rintro e w' ⟨rfl,nq,rfl⟩
      go_wp2_with (go_at_call 181; refine (unclean_any _ _).mono ?_; rintro e w' ⟨rfl,rfl⟩)
      first
      | (
         go_ret
         exact ⟨ret_bool (by rw [HV.out,HI.out,HG.out]; rfl),_,rfl⟩)
      | (
         go_roundw
         case rel=>exact ⟨k+n,_,by have:=HN.out; simp at this; exact this,by go_num,by show _=_; rw [HV.out,HI.out,HG.out]; simp,rfl⟩
         case measure=>simp [intOf]; omega)
  ·go_wp2_with fail
   go_ret
   exact ⟨ret_bool (by rw [HV.out,validFrom_out s k hlt]),_,rfl⟩
end Go.Proofs.YtmcoomlkbgiboaaGreatDoor

/- Clean text of one line. No condition. -/
set_option linter.all false
namespace Go.Proofs.YtmcoomlkbgiboaaGreatDoor
open Go.RowKit

def lineB (l:Bs):Bool:=validB (bs l) && !(l.contains 10)
end Go.Proofs.YtmcoomlkbgiboaaGreatDoor

/- The reference's Points and Valid: the code points of any text, and whether it is clean. No condition but the length. -/
set_option linter.all false
namespace Go.Proofs.YtmcoomlkbgiboaaGreatDoor
open Go.RowKit

def pointsFrom (s:ByteArray) (i:Nat):List (Int × Int) :=
 if i<s.size then dec s i :: pointsFrom s (i+(dec s i).2.toNat) else []
termination_by s.size - i
decreasing_by have:=(dec_bounds s i (by assumption)).2.2.1; omega
theorem pointsFrom_in (s:ByteArray) (i:Nat) (h:i<s.size):pointsFrom s i=dec s i :: pointsFrom s (i+(dec s i).2.toNat):=by rw [pointsFrom,if_pos h]
theorem pointsFrom_out (s:ByteArray) (i:Nat) (h:¬ i<s.size):pointsFrom s i=[]:=by rw [pointsFrom,if_neg h]
def points (s:ByteArray):List (Int × Int):=pointsFrom s 0
theorem pts_len (s:ByteArray) (i:Nat):(pointsFrom s i).length≤s.size - i:=by
 rcases Nat.lt_or_ge i s.size with h | h
 ·have hb:=(dec_bounds s i h)
  have ih:=pts_len s (i+(dec s i).2.toNat)
  rw [pointsFrom_in s i h,List.length_cons]
  omega
 ·rw [pointsFrom_out s i (by omega)]; simp
termination_by s.size - i
decreasing_by have:=(dec_bounds s i (by assumption)).2.2.1; omega

end Go.Proofs.YtmcoomlkbgiboaaGreatDoor

/- A range over a string, with whatever memory beside its iterator. No condition. -/
set_option linter.all false
namespace Go.Proofs.YtmcoomlkbgiboaaGreatDoor
open Go.RowKit

theorem run_next_k {P:Program} (w:World) (k:Nat) (s:ByteArray) (pos:Nat) (ty:TypeId) (hk:w.heap[k]? = some (.stringIter s pos)) (h:pos<s.size) :
  (Instr.next (.pointer (some ⟨k,0,none⟩)) true ty).run P w=.ok (.tuple #[.bool true,.int .i64 pos,.int .i32 (dec s pos).1]) (w.iterAt k s (pos+(dec s pos).2.toNat)):=by
 rw [dec_eq]
 simp only [Instr.next,getObj,setObj,Sem.run_bind,Sem.run,hk,Result.andThen,h,if_true,World.iterAt,Int.toNat_natCast]
 simp [goInt,Sem.run,hk]
theorem run_next_k_end {P:Program} (w:World) (k:Nat) (s:ByteArray) (pos:Nat) (ty:TypeId) (hk:w.heap[k]? = some (.stringIter s pos)) (h:¬ pos<s.size) :
  (Instr.next (.pointer (some ⟨k,0,none⟩)) true ty).run P w=.ok (.tuple #[.bool false]) w:=by
 simp [Instr.next,getObj,Sem.run,hk,h]
end Go.Proofs.YtmcoomlkbgiboaaGreatDoor
