/- chars.Valid and the reference's Valid answer the same of any text: plain law and walks. No condition but the length. -/
import Derived.Test.YtmcoomlkbgiboaaGreatDoorU04
import Derived.Test.YtmcoomlkbgiboaaGreatDoorU01
import Derived.Test.YtmcoomlkbgiboaaGreatDoorU02
import Derived.Lib.OthersKept
set_option linter.all false
set_option maxRecDepth 100000
set_option maxHeartbeats 1600000
namespace Go.Proofs.YtmcoomlkbgiboaaGreatDoor
open Go.RowKit
theorem zxJ (s:ByteArray) (i:Nat) (l h:Int) (hh:h<=191):zaI s i l h<=63:=by unfold zaI;split <;> omega
theorem za6 (s:ByteArray) (i:Nat) (hi:i<s.size):0<=(dec s i).1/\(dec s i).1<=2000000/\1<=(dec s i).2/\(dec s i).2<=4/\(i:Int)+(dec s i).2<=s.size:=by
 have h0:=zaM s i;have m1:∀ k l h,0<=zaI s k l h->k<s.size:=fun k l h q=>(zgP q).1;have hh:∀ k l h,h<=191->zaI s k l h<=63:=fun k l h q=>zxJ s k l h q;unfold dec
 split
 ·simp only;omega
 split
 ·split
  ·rename_i q;have:=m1 _ _ _ q;have:=hh (i+1) 128 191 (by omega);simp only;omega
  ·simp only;omega
 split
 ·unfold zhI
  split
  ·simp only;omega
  ·rename_i q;have a1:=m1 (i+2) 128 191 (by omega);have a2:=hh (i+1) (zfO (zaC s i)) (zc3 (zaC s i)) (by unfold zc3;split <;> omega);have a3:=hh (i+2) 128 191 (by omega);simp only;omega
 split
 ·unfold zsC
  split
  ·simp only;omega
  ·rename_i q;have a1:=m1 (i+3) 128 191 (by omega);have a2:=hh (i+1) (zfI (zaC s i)) (zc4 (zaC s i)) (by unfold zc4;split <;> omega);have a3:=hh (i+2) 128 191 (by omega);have a4:=hh (i+3) 128 191 (by omega);simp only;omega
 ·simp only;omega
def zcI (p:Int × Int):Bool:=zeH p.1 && !(p.1 == 65533 && p.2 == 1)
theorem zoA (c:Int):zgD c = !zeH c:=by
 unfold zgD zeH;rw[Bool.eq_iff_iff];simp;omega
def zb5 (s:ByteArray) (i:Nat):Bool :=
 if i<s.size then zcI (dec s i) && zb5 s (i+(dec s i).2.toNat) else true
termination_by s.size - i
decreasing_by have:=(za6 s i (by assumption)).2.2.1;omega
theorem zdP (s:ByteArray) (i:Nat) (h:i<s.size):zb5 s i=(zcI (dec s i) && zb5 s (i+(dec s i).2.toNat)):=by rw[zb5,if_pos h]
theorem zb8 (s:ByteArray) (i:Nat) (h:¬ i<s.size):zb5 s i=true:=by rw[zb5,if_neg h]
def zbQ (s:ByteArray):Bool:=zb5 s 0
theorem zp4 (s:ByteArray):Hid (zbQ s=zb5 s 0):=by unfold Hid zbQ;exact Eq.refl _
theorem zu1 {w:World} {a b:Nat}:∃ n,(w.drewN a).drewN b=w.drewN n:=⟨a+b,by simp [World.drewN,Nat.add_assoc]⟩
theorem zlB (s:ByteArray) (w:World) (hs:s.size<=1000000000) :
  Calls Tryz.prog 133 #[.string s] w fun e w'=>e=.returned (.bool (zbQ s))/\∃ n,w'=w.drewN n:=by
 go_enter Tryz.func133,Tryz.ntmps133
 go_wp2
 go_loopw [3] (fun i wr=>∃ k m:Nat,k<=s.size/\i=.int .i64 k/\Hid (zbQ s=zb5 s k)/\wr=w.drewN m) (fun i _=>s.size - (intOf i).toNat)
 case atStart=>exact ⟨0,0,Nat.zero_le _,rfl,zp4 s,rfl⟩
 case round =>
  obtain ⟨k,m,hk,rfl,HV,rfl⟩:=hrel;by_cases hlt:k<s.size
  ·have hb:=za6 s k hlt;have HI:Hid (zb5 s k=(zcI (dec s k) && zb5 s (k+(dec s k).2.toNat))):=zdP s k hlt;have HP:∀ w,Calls Tryz.prog 180 #[.string s,.int .i64 k] w (NextPost s k w):=fun w=>zAY s k w hs hlt;unfold NextPost at HP;have HP:=Hd HP;obtain ⟨c,n,hd⟩:∃ c n,dec s k=(c,n):=⟨_,_,rfl⟩;rw[hd] at hb HI HP;simp only at hb HI HP;clear hd;obtain ⟨b1,b2,b3,b4,b5⟩:=hb;by_cases q1:c=65533/\n=1
   ·have t1:(c == 65533)=true:=beq_iff_eq.2 q1.1;have t2:(n == 1)=true:=beq_iff_eq.2 q1.2;have HG:Hid (zcI (c,n)=false):=(by show _=_;simp only[zcI,t1,t2,Bool.and_self,Bool.not_true,Bool.and_false]);clear q1;go_wp2_with fail;refine (HP.out _).mono ?_;rintro e w' ⟨rfl,nq,rfl⟩;go_wp2_with fail;go_ret;exact ⟨zaO (by rw[HV.out,HI.out,HG.out];rfl),_,rfl⟩
   ·have tt:(c == 65533)=false\/(c == 65533)=true/\(n == 1)=false:=by
     simp only[beq_iff_eq,beq_eq_false_iff_ne,ne_eq];omega
    have HG:Hid (zcI (c,n) = !zgD c):=by
     show _=_;rw[zoA,Bool.not_not];rcases tt with t1|⟨t1,t2⟩
     ·simp only[zcI,t1,Bool.false_and,Bool.not_false,Bool.and_true]
     ·simp only[zcI,t1,t2,Bool.and_false,Bool.not_false,Bool.and_true]
    clear q1;have HN:Hid (k+n.toNat<=s.size):=(by show _<=_;omega);obtain ⟨n,rfl⟩:∃ n':Nat,n=n':=⟨n.toNat,by omega⟩;obtain ⟨u,hu⟩:∃ u,zgD c=u:=⟨_,rfl⟩;rw[hu] at HG;cases u
    all_goals
     rcases tt with t1|⟨t1,t2⟩
     all_goals
      go_wp2_with fail;refine (HP.out _).mono ?_;rintro e w' ⟨rfl,nq,rfl⟩;go_wp2_with (go_at_call 181;refine (zsE _ _).mono ?_;rintro e w' ⟨rfl,rfl⟩)
      first
      | (
         go_ret;exact ⟨zaO (by rw[HV.out,HI.out,HG.out];rfl),_,rfl⟩)
      | (
         go_roundw
         case rel=>exact ⟨k+n,_,by have:=HN.out;simp at this;exact this,by go_num,by show _=_;rw[HV.out,HI.out,HG.out];simp,rfl⟩
         case measure=>simp [intOf];omega)
  ·go_wp2_with fail;go_ret;exact ⟨zaO (by rw[HV.out,zb8 s k hlt]),_,rfl⟩
def zhJ (l:Bs):Bool:=zbQ (bs l) && !(l.contains 10)
def zbM (s:ByteArray) (i:Nat):List (Int × Int) :=
 if i<s.size then dec s i :: zbM s (i+(dec s i).2.toNat) else []
termination_by s.size - i
decreasing_by have:=(za6 s i (by assumption)).2.2.1;omega
theorem zd6 (s:ByteArray) (i:Nat) (h:i<s.size):zbM s i=dec s i :: zbM s (i+(dec s i).2.toNat):=by rw[zbM,if_pos h]
theorem zdL (s:ByteArray) (i:Nat) (h:¬ i<s.size):zbM s i=[]:=by rw[zbM,if_neg h]
def zf0 (s:ByteArray):List (Int × Int):=zbM s 0
theorem zp5 (s:ByteArray):Hid (zf0 s=[] ++ zbM s 0):=by unfold Hid zf0;simp
def zgE (l:List (Int × Int)):List Value:=l.flatMap fun p=>[.int .i64 p.1,.int .i64 p.2]
theorem zp6 (l:List (Int × Int)) (c n:Int):zgE (l ++ [(c,n)])=zgE l ++ [.int .i64 c,.int .i64 n]:=by unfold zgE;simp
theorem zu2 (l:List (Int × Int)) (j:Nat) (p:Int × Int) (h:l[j]? = some p):(zgE l)[2 * j]? = some (.int .i64 p.1)/\(zgE l)[2 * j+1]? = some (.int .i64 p.2):=by
 induction l generalizing j with
 | nil=>simp at h
 | cons a l ih =>
  cases j with
  | zero=>simp at h;subst h;exact ⟨rfl,rfl⟩
  | succ j =>
   have:=ih j (by simpa using h);unfold zgE at this ⊢;rw[List.flatMap_cons,show 2 * (j+1)=2 * j+2 from by omega,show 2 * j+2+1=2 * j+1+2 from by omega];exact this
theorem Tryz.infoPt:(Tryz.prog.info? 210).map (fun i=>(i.zero,i.size,i.bytes))=some (some (.agg #[.int .i64 0,.int .i64 0]),2,16):=by kernel_rfl
theorem zsL (s:ByteArray) (i:Nat):(zbM s i).length<=s.size - i:=by
 rcases Nat.lt_or_ge i s.size with h|h
 ·have hb:=(za6 s i h);have ih:=zsL s (i+(dec s i).2.toNat);rw[zd6 s i h,List.length_cons];omega
 ·rw[zdL s i (by omega)];simp
termination_by s.size - i
decreasing_by have:=(za6 s i (by assumption)).2.2.1;omega
theorem zu3 (s:ByteArray) (w:World) (hs:s.size<=1000000000) :
  Calls Tryz.prog 153 #[.string s] w fun e w'=>∃ v,e=.returned v/\w'.ownsRow w.heap.size 210 2 v (zf0 s).length (zgE (zf0 s))/\Kept w w':=by
 obtain ⟨i0,hi,hz0,hz1,hz2⟩:=info_parts Tryz.infoPt;obtain ⟨B,hB⟩:∃ B,B=w.heap.size:=⟨_,rfl⟩;have HB:=Hd hB;rw[<- hB];clear hB;go_enter Tryz.func153,Tryz.ntmps153
 go_wp2
 go_loopw [3,4] (fun v i wr=>∃ (k:Nat) (pts:List (Int × Int)),k<=s.size/\i=.int .i64 k/\pts.length<=k/\wr.ownsRow B 210 2 v pts.length (zgE pts)/\Hid (zf0 s=pts ++ zbM s k)/\Below B w wr) (fun _ i _=>s.size - (intOf i).toNat)
 case atStart=>exact ⟨0,[],Nat.zero_le _,rfl,Nat.le_refl _,World.ownsRow_nil _ _ _ _,zp5 s,Below.refl _ _⟩
 case round =>
  obtain ⟨k,pts,hk,rfl,hpl,hown,HP,hbel⟩:=hrel;by_cases hlt:k<s.size
  ·have hb:=za6 s k hlt;have HI:Hid (zbM s k=dec s k :: zbM s (k+(dec s k).2.toNat)):=zd6 s k hlt;have HC:=Hd (fun w=>zEp s k w hs hlt);obtain ⟨c,n,hd⟩:∃ c n,dec s k=(c,n):=⟨_,_,rfl⟩;rw[hd] at hb HI HC;simp only at hb HI HC;clear hd;obtain ⟨b1,b2,b3,b4,b5⟩:=hb;obtain ⟨n,rfl⟩:∃ n':Nat,n=n':=⟨n.toNat,by omega⟩;simp only[Int.toNat_natCast] at HI;have HW:=Hd hown;have HX:=Hd hbel;clear hown hbel;go_wp2_with fail;refine (HC.out _).mono ?_;rintro e w1 ⟨rfl,hk1⟩;have hown1:=zaU HW.out hk1;have hs1:B<=w1.heap.size:=(by have:=HX.out.size;have:=hk1.size;rw[HB.out];omega);have Hbel:=Hd (HX.out.trans (hk1.mono (by have:=HX.out.size;rw[HB.out];exact this)));clear hk1;go_wp2_with (at_builtin;refine wpList_append_own _ rfl _ _ 207 rfl B 210 i0 (.agg #[.int .i64 0,.int .i64 0]) 2 16 Tryz.underlying207 hi hz0 hz1 hz2 rfl (by decide) _ _ _ rfl ((hown1.alloc _).alloc _) ⟨w1.heap.size+1,0,none⟩ 1 1 [.int .i64 c,.int .i64 n] rfl rfl ?c1 ?c2 ?c3 ?c4 ?c5 ?_)
   case c1=>exact zaV _ #[.int .i64 c,.int .i64 n] _ _ (by simp)
   case c2=>intro u hu;simp at hu;rcases hu with rfl|rfl <;> rfl
   case c3=>unfold maxLen;omega
   case c4=>omega
   case c5=>simp;omega
   intro v' w2 hown2 hgrow _;have hc2:w2.cell? ⟨w1.heap.size,1,none⟩=some (.int .i64 n):=by
    rw[zuL hgrow _ _ (by simp;omega) (zEn hown1 _ (Nat.le_refl _))];simp
   have hbel2:Below B w w2:=((Hbel.out.alloc hs1 _).alloc (by simp;omega) _).trans (zaG ((hown1.alloc _).alloc _) hgrow (by simp;omega));rw[<- zp6] at hown2;have HO:=Hd hown2;have HB2:=Hd hbel2;clear hown2 hgrow hbel2 hown1;go_wp2_with fail;go_roundw
   case rel =>
    refine ⟨k+n,pts ++ [(c,(n:Int))],by omega,by go_num,by simp;omega,?_,?_,HB2.out⟩
    ·have:=HO.out;simpa using this
    ·show _=_;rw[HP.out,HI.out];simp
   case measure=>simp [intOf];omega
  ·have hown':=zaU hown (Kept.refl _);go_wp2_with fail;go_ret;refine ⟨_,rfl,?_,by rw[HB.out] at hbel;exact hbel⟩;have:zf0 s=pts:=(by rw[HP.out,zdL s k hlt];simp);rw[this];exact hown'
theorem zf1 (s:ByteArray) (i:Nat):zb5 s i=(zbM s i).all zcI:=by
 rcases Nat.lt_or_ge i s.size with h|h
 ·have hb:=(za6 s i h);have ih:=zf1 s (i+(dec s i).2.toNat);rw[zd6 s i h,zdP s i h,List.all_cons,ih]
 ·rw[zdL s i (by omega),zb8 s i (by omega)];rfl
termination_by s.size - i
decreasing_by have:=(za6 s i (by assumption)).2.2.1;omega
theorem zoB (s:ByteArray):zbQ s=(zf0 s).all zcI:=zf1 s 0
theorem zc0 {P:Program} (w:World) (k:Nat) (s:ByteArray) (pos:Nat) (ty:TypeId) (hk:w.heap[k]? = some (.stringIter s pos)) (h:pos<s.size) :
  (Instr.next (.pointer (some ⟨k,0,none⟩)) true ty).run P w=.ok (.tuple #[.bool true,.int .i64 pos,.int .i32 (dec s pos).1]) (w.iterAt k s (pos+(dec s pos).2.toNat)):=by
 rw[zCP];simp only[Instr.next,getObj,setObj,Sem.run_bind,Sem.run,hk,Result.andThen,h,if_true,World.iterAt,Int.toNat_natCast];simp [goInt,Sem.run,hk]
theorem zbR {P:Program} (w:World) (k:Nat) (s:ByteArray) (pos:Nat) (ty:TypeId) (hk:w.heap[k]? = some (.stringIter s pos)) (h:¬ pos<s.size) :
  (Instr.next (.pointer (some ⟨k,0,none⟩)) true ty).run P w=.ok (.tuple #[.bool false]) w:=by
 simp [Instr.next,getObj,Sem.run,hk,h]
end Go.Proofs.YtmcoomlkbgiboaaGreatDoor
