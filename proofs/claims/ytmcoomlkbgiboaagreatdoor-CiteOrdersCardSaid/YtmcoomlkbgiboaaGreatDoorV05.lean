/- chars.Valid and the reference's Valid answer the same of any text: plain law and walks. No condition but the length. -/
import Derived.Test.YtmcoomlkbgiboaaGreatDoorV04
import Derived.Test.YtmcoomlkbgiboaaGreatDoorV01
import Derived.Test.YtmcoomlkbgiboaaGreatDoorV02
import Derived.Lib.OthersKept
set_option linter.all false
set_option maxRecDepth 100000
set_option maxHeartbeats 1600000
namespace Go.Proofs.YtmcoomlkbgiboaaGreatDoor
open Go.RowKit
theorem zx8 (s:ByteArray) (i:Nat) (l h:Int) (hh:h<=191):zaH s i l h<=63:=by unfold zaH;split <;> omega
theorem za7 (s:ByteArray) (i:Nat) (hi:i<s.size):0<=(dec s i).1/\(dec s i).1<=2000000/\1<=(dec s i).2/\(dec s i).2<=4/\(i:Int)+(dec s i).2<=s.size:=by
 have h0:=zaL s i;have m1:∀ k l h,0<=zaH s k l h->k<s.size:=fun k l h q=>(zgQ q).1;have hh:∀ k l h,h<=191->zaH s k l h<=63:=fun k l h q=>zx8 s k l h q;unfold dec
 split
 ·simp only;omega
 split
 ·split
  ·rename_i q;have:=m1 _ _ _ q;have:=hh (i+1) 128 191 (by omega);simp only;omega
  ·simp only;omega
 split
 ·unfold zhI
  split
  ·simp only;omega
  ·rename_i q;have a1:=m1 (i+2) 128 191 (by omega);have a2:=hh (i+1) (zfP (zaC s i)) (zc3 (zaC s i)) (by unfold zc3;split <;> omega);have a3:=hh (i+2) 128 191 (by omega);simp only;omega
 split
 ·unfold zsU
  split
  ·simp only;omega
  ·rename_i q;have a1:=m1 (i+3) 128 191 (by omega);have a2:=hh (i+1) (zfI (zaC s i)) (zc4 (zaC s i)) (by unfold zc4;split <;> omega);have a3:=hh (i+2) 128 191 (by omega);have a4:=hh (i+3) 128 191 (by omega);simp only;omega
 ·simp only;omega
def zcI (p:Int × Int):Bool:=zeD p.1 && !(p.1 == 65533 && p.2 == 1)
theorem zoR (c:Int):zgA c = !zeD c:=by
 unfold zgA zeD;rw[Bool.eq_iff_iff];simp;omega
def zb4 (s:ByteArray) (i:Nat):Bool :=
 if i<s.size then zcI (dec s i) && zb4 s (i+(dec s i).2.toNat) else true
termination_by s.size - i
decreasing_by have:=(za7 s i (by assumption)).2.2.1;omega
theorem zdP (s:ByteArray) (i:Nat) (h:i<s.size):zb4 s i=(zcI (dec s i) && zb4 s (i+(dec s i).2.toNat)):=by rw[zb4,if_pos h]
theorem zb9 (s:ByteArray) (i:Nat) (h:¬ i<s.size):zb4 s i=true:=by rw[zb4,if_neg h]
def zbQ (s:ByteArray):Bool:=zb4 s 0
theorem zqD (s:ByteArray):Hid (zbQ s=zb4 s 0):=by unfold Hid zbQ;exact Eq.refl _
theorem zvQ {w:World} {a b:Nat}:∃ n,(w.drewN a).drewN b=w.drewN n:=⟨a+b,by simp [World.drewN,Nat.add_assoc]⟩
theorem zlN (s:ByteArray) (w:World) (hs:s.size<=1000000000) :
  Calls Tryz.prog 133 #[.string s] w fun e w'=>e=.returned (.bool (zbQ s))/\∃ n,w'=w.drewN n:=by
 go_enter Tryz.func133,Tryz.ntmps133
 go_wp2
 go_loopw [3] (fun i wr=>∃ k m:Nat,k<=s.size/\i=.int .i64 k/\Hid (zbQ s=zb4 s k)/\wr=w.drewN m) (fun i _=>s.size - (intOf i).toNat)
 case atStart=>exact ⟨0,0,Nat.zero_le _,rfl,zqD s,rfl⟩
 case round =>
  obtain ⟨k,m,hk,rfl,HV,rfl⟩:=hrel;by_cases hlt:k<s.size
  ·have hb:=za7 s k hlt;have HI:Hid (zb4 s k=(zcI (dec s k) && zb4 s (k+(dec s k).2.toNat))):=zdP s k hlt;have HP:∀ w,Calls Tryz.prog 180 #[.string s,.int .i64 k] w (NextPost s k w):=fun w=>zBu s k w hs hlt;unfold NextPost at HP;have HP:=Hd HP;obtain ⟨c,n,hd⟩:∃ c n,dec s k=(c,n):=⟨_,_,rfl⟩;rw[hd] at hb HI HP;simp only at hb HI HP;clear hd;obtain ⟨b1,b2,b3,b4,b5⟩:=hb;by_cases q1:c=65533/\n=1
   ·have t1:(c == 65533)=true:=beq_iff_eq.2 q1.1;have t2:(n == 1)=true:=beq_iff_eq.2 q1.2;have HG:Hid (zcI (c,n)=false):=(by show _=_;simp only[zcI,t1,t2,Bool.and_self,Bool.not_true,Bool.and_false]);clear q1;go_wp2_with fail;refine (HP.out _).mono ?_;rintro e w' ⟨rfl,nq,rfl⟩;go_wp2_with fail;go_ret;exact ⟨zaN (by rw[HV.out,HI.out,HG.out];rfl),_,rfl⟩
   ·have tt:(c == 65533)=false\/(c == 65533)=true/\(n == 1)=false:=by
     simp only[beq_iff_eq,beq_eq_false_iff_ne,ne_eq];omega
    have HG:Hid (zcI (c,n) = !zgA c):=by
     show _=_;rw[zoR,Bool.not_not];rcases tt with t1|⟨t1,t2⟩
     ·simp only[zcI,t1,Bool.false_and,Bool.not_false,Bool.and_true]
     ·simp only[zcI,t1,t2,Bool.and_false,Bool.not_false,Bool.and_true]
    clear q1;have HN:Hid (k+n.toNat<=s.size):=(by show _<=_;omega);obtain ⟨n,rfl⟩:∃ n':Nat,n=n':=⟨n.toNat,by omega⟩;obtain ⟨u,hu⟩:∃ u,zgA c=u:=⟨_,rfl⟩;rw[hu] at HG;cases u
    all_goals
     rcases tt with t1|⟨t1,t2⟩
     all_goals
      go_wp2_with fail;refine (HP.out _).mono ?_;rintro e w' ⟨rfl,nq,rfl⟩;go_wp2_with (go_at_call 181;refine (zsW _ _).mono ?_;rintro e w' ⟨rfl,rfl⟩)
      first
      | (
         go_ret;exact ⟨zaN (by rw[HV.out,HI.out,HG.out];rfl),_,rfl⟩)
      | (
         go_roundw
         case rel=>exact ⟨k+n,_,by have:=HN.out;simp at this;exact this,by go_num,by show _=_;rw[HV.out,HI.out,HG.out];simp,rfl⟩
         case measure=>simp [intOf];omega)
  ·go_wp2_with fail;go_ret;exact ⟨zaN (by rw[HV.out,zb9 s k hlt]),_,rfl⟩
def zhJ (l:Bs):Bool:=zbQ (bs l) && !(l.contains 10)
def zbL (s:ByteArray) (i:Nat):List (Int × Int) :=
 if i<s.size then dec s i :: zbL s (i+(dec s i).2.toNat) else []
termination_by s.size - i
decreasing_by have:=(za7 s i (by assumption)).2.2.1;omega
theorem zd5 (s:ByteArray) (i:Nat) (h:i<s.size):zbL s i=dec s i :: zbL s (i+(dec s i).2.toNat):=by rw[zbL,if_pos h]
theorem zdL (s:ByteArray) (i:Nat) (h:¬ i<s.size):zbL s i=[]:=by rw[zbL,if_neg h]
def zfZ (s:ByteArray):List (Int × Int):=zbL s 0
theorem zqE (s:ByteArray):Hid (zfZ s=[] ++ zbL s 0):=by unfold Hid zfZ;simp
def zgB (l:List (Int × Int)):List Value:=l.flatMap fun p=>[.int .i64 p.1,.int .i64 p.2]
theorem zqF (l:List (Int × Int)) (c n:Int):zgB (l ++ [(c,n)])=zgB l ++ [.int .i64 c,.int .i64 n]:=by unfold zgB;simp
theorem zvR (l:List (Int × Int)) (j:Nat) (p:Int × Int) (h:l[j]? = some p):(zgB l)[2 * j]? = some (.int .i64 p.1)/\(zgB l)[2 * j+1]? = some (.int .i64 p.2):=by
 induction l generalizing j with
 | nil=>simp at h
 | cons a l ih =>
  cases j with
  | zero=>simp at h;subst h;exact ⟨rfl,rfl⟩
  | succ j =>
   have:=ih j (by simpa using h);unfold zgB at this ⊢;rw[List.flatMap_cons,show 2 * (j+1)=2 * j+2 from by omega,show 2 * j+2+1=2 * j+1+2 from by omega];exact this
theorem Tryz.infoPt:(Tryz.prog.info? 210).map (fun i=>(i.zero,i.size,i.bytes))=some (some (.agg #[.int .i64 0,.int .i64 0]),2,16):=by kernel_rfl
theorem zs3 (s:ByteArray) (i:Nat):(zbL s i).length<=s.size - i:=by
 rcases Nat.lt_or_ge i s.size with h|h
 ·have hb:=(za7 s i h);have ih:=zs3 s (i+(dec s i).2.toNat);rw[zd5 s i h,List.length_cons];omega
 ·rw[zdL s i (by omega)];simp
termination_by s.size - i
decreasing_by have:=(za7 s i (by assumption)).2.2.1;omega
theorem zvS (s:ByteArray) (w:World) (hs:s.size<=1000000000) :
  Calls Tryz.prog 153 #[.string s] w fun e w'=>∃ v,e=.returned v/\w'.ownsRow w.heap.size 210 2 v (zfZ s).length (zgB (zfZ s))/\Kept w w':=by
 obtain ⟨i0,hi,hz0,hz1,hz2⟩:=info_parts Tryz.infoPt;obtain ⟨B,hB⟩:∃ B,B=w.heap.size:=⟨_,rfl⟩;have HB:=Hd hB;rw[<- hB];clear hB;go_enter Tryz.func153,Tryz.ntmps153
 go_wp2
 go_loopw [3,4] (fun v i wr=>∃ (k:Nat) (pts:List (Int × Int)),k<=s.size/\i=.int .i64 k/\pts.length<=k/\wr.ownsRow B 210 2 v pts.length (zgB pts)/\Hid (zfZ s=pts ++ zbL s k)/\Below B w wr) (fun _ i _=>s.size - (intOf i).toNat)
 case atStart=>exact ⟨0,[],Nat.zero_le _,rfl,Nat.le_refl _,World.ownsRow_nil _ _ _ _,zqE s,Below.refl _ _⟩
 case round =>
  obtain ⟨k,pts,hk,rfl,hpl,hown,HP,hbel⟩:=hrel;by_cases hlt:k<s.size
  ·have hb:=za7 s k hlt;have HI:Hid (zbL s k=dec s k :: zbL s (k+(dec s k).2.toNat)):=zd5 s k hlt;have HC:=Hd (fun w=>zx7 s k w hs hlt);obtain ⟨c,n,hd⟩:∃ c n,dec s k=(c,n):=⟨_,_,rfl⟩;rw[hd] at hb HI HC;simp only at hb HI HC;clear hd;obtain ⟨b1,b2,b3,b4,b5⟩:=hb;obtain ⟨n,rfl⟩:∃ n':Nat,n=n':=⟨n.toNat,by omega⟩;simp only[Int.toNat_natCast] at HI;have HW:=Hd hown;have HX:=Hd hbel;clear hown hbel;go_wp2_with fail;refine (HC.out _).mono ?_;rintro e w1 ⟨rfl,hk1⟩;have hown1:=zaP HW.out hk1;have hs1:B<=w1.heap.size:=(by have:=HX.out.size;have:=hk1.size;rw[HB.out];omega);have Hbel:=Hd (HX.out.trans (hk1.mono (by have:=HX.out.size;rw[HB.out];exact this)));clear hk1;go_wp2_with (at_builtin;refine wpList_append_own _ rfl _ _ 207 rfl B 210 i0 (.agg #[.int .i64 0,.int .i64 0]) 2 16 Tryz.underlying207 hi hz0 hz1 hz2 rfl (by decide) _ _ _ rfl ((hown1.alloc _).alloc _) ⟨w1.heap.size+1,0,none⟩ 1 1 [.int .i64 c,.int .i64 n] rfl rfl ?c1 ?c2 ?c3 ?c4 ?c5 ?_)
   case c1=>exact za0 _ #[.int .i64 c,.int .i64 n] _ _ (by simp)
   case c2=>intro u hu;simp at hu;rcases hu with rfl|rfl <;> rfl
   case c3=>unfold maxLen;omega
   case c4=>omega
   case c5=>simp;omega
   intro v' w2 hown2 hgrow _;have hc2:w2.cell? ⟨w1.heap.size,1,none⟩=some (.int .i64 n):=by
    rw[zvB hgrow _ _ (by simp;omega) (zEU hown1 _ (Nat.le_refl _))];simp
   have hbel2:Below B w w2:=((Hbel.out.alloc hs1 _).alloc (by simp;omega) _).trans (zaI ((hown1.alloc _).alloc _) hgrow (by simp;omega));rw[<- zqF] at hown2;have HO:=Hd hown2;have HB2:=Hd hbel2;clear hown2 hgrow hbel2 hown1;go_wp2_with fail;go_roundw
   case rel =>
    refine ⟨k+n,pts ++ [(c,(n:Int))],by omega,by go_num,by simp;omega,?_,?_,HB2.out⟩
    ·have:=HO.out;simpa using this
    ·show _=_;rw[HP.out,HI.out];simp
   case measure=>simp [intOf];omega
  ·have hown':=zaP hown (Kept.refl _);go_wp2_with fail;go_ret;refine ⟨_,rfl,?_,by rw[HB.out] at hbel;exact hbel⟩;have:zfZ s=pts:=(by rw[HP.out,zdL s k hlt];simp);rw[this];exact hown'
theorem zf0 (s:ByteArray) (i:Nat):zb4 s i=(zbL s i).all zcI:=by
 rcases Nat.lt_or_ge i s.size with h|h
 ·have hb:=(za7 s i h);have ih:=zf0 s (i+(dec s i).2.toNat);rw[zd5 s i h,zdP s i h,List.all_cons,ih]
 ·rw[zdL s i (by omega),zb9 s i (by omega)];rfl
termination_by s.size - i
decreasing_by have:=(za7 s i (by assumption)).2.2.1;omega
theorem zoS (s:ByteArray):zbQ s=(zfZ s).all zcI:=zf0 s 0
theorem zc1 {P:Program} (w:World) (k:Nat) (s:ByteArray) (pos:Nat) (ty:TypeId) (hk:w.heap[k]? = some (.stringIter s pos)) (h:pos<s.size) :
  (Instr.next (.pointer (some ⟨k,0,none⟩)) true ty).run P w=.ok (.tuple #[.bool true,.int .i64 pos,.int .i32 (dec s pos).1]) (w.iterAt k s (pos+(dec s pos).2.toNat)):=by
 rw[zDA];simp only[Instr.next,getObj,setObj,Sem.run_bind,Sem.run,hk,Result.andThen,h,if_true,World.iterAt,Int.toNat_natCast];simp [goInt,Sem.run,hk]
theorem zbR {P:Program} (w:World) (k:Nat) (s:ByteArray) (pos:Nat) (ty:TypeId) (hk:w.heap[k]? = some (.stringIter s pos)) (h:¬ pos<s.size) :
  (Instr.next (.pointer (some ⟨k,0,none⟩)) true ty).run P w=.ok (.tuple #[.bool false]) w:=by
 simp [Instr.next,getObj,Sem.run,hk,h]
end Go.Proofs.YtmcoomlkbgiboaaGreatDoor
