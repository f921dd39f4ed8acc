/- line, barred, part of package person and of its reference. Conditions: lengths. -/
import Derived.Test.YtmcoomlkbgiboaaGreatDoorW05
import Derived.Test.YtmcoomlkbgiboaaGreatDoorW06
import Derived.Test.YtmcoomlkbgiboaaGreatDoorW03
import Derived.Test.YtmcoomlkbgiboaaGreatDoorW04
import Derived.Deep.RegionWith
set_option linter.all false
set_option maxRecDepth 100000
set_option maxHeartbeats 3200000
namespace Go.Proofs.YtmcoomlkbgiboaaGreatDoor
open Go.RowKit
def zAQ:Bs:=[44,59,123,125]
def zFc:Bs:=[59,123,125]
def zbM (l:Bs):Bool:=zd6 l && !(l.any (za9 zAQ)) && (l == zeS l)
theorem zjQ (c:UInt8) (l:Bs):l.contains c=l.any (fun b=>b == c):=by
 induction l with
 | nil=>rfl
 | cons a l ih=>rw[List.contains_cons,List.any_cons,ih];congr 1;rw[Bool.eq_iff_iff,beq_iff_eq,beq_iff_eq];exact eq_comm
theorem zvD (l:Bs) (w:World):Calls Tryz.prog 134 #[.string (bs l),.string (bs [10])] w fun e w'=>e=.returned (.bool (l.contains 10))/\w=w':=by
 refine (Tryz.strings_Contains_one (bs l) 10 w).mono ?_;rintro e w' ⟨rfl,rfl⟩;exact ⟨zaH (zbB 10 l),rfl⟩
theorem zBd (l:Bs) (w:World) (hs:l.length<=1000000000) :
  Calls Tryz.prog 259 #[.string (bs l)] w fun e w'=>e=.returned (.bool (zd6 l))/\∃ n,w'=w.drewN n:=by
 have HV:=Hd (fun w=>zk9 (bs l) w hs);have HL:Hid (zd6 l=(zbG (bs l) && !(l.contains 10))):=rfl;have HC:=Hd (fun w=>zvD l w);generalize zbG (bs l)=v at *;generalize l.contains 10=c at *;cases v
 ·go_enter Tryz.func259,Tryz.ntmps259;go_wp2_with fail;refine (HV.out _).mono ?_;rintro e w1 ⟨rfl,n,rfl⟩;go_wp2_with fail;go_ret;exact ⟨zaH (by rw[HL.out];rfl),n,rfl⟩
 ·go_enter Tryz.func259,Tryz.ntmps259;go_wp2_with fail;refine (HV.out _).mono ?_;rintro e w1 ⟨rfl,n,rfl⟩;go_wp2_with fail;refine (HC.out _).mono ?_;rintro e w1 ⟨rfl,rfl⟩;cases c
  all_goals
   go_wp2_with fail;go_ret;exact ⟨zaH (by rw[HL.out];rfl),n,rfl⟩
theorem zsG (f:UInt8->Bool) (l:Bs):Hid (l.any f=(l.drop 0).any f):=by unfold Hid;simp
theorem zxS (l:Bs) (w:World) (hs:l.length<=1000000000) :
  Calls Tryz.prog 245 #[.string (bs l)] w fun e w'=>e=.returned (.bool (zd6 l))/\Kept w w':=by
 have HV:=Hd (fun w=>ziX (bs l) w hs);have HL:Hid (zd6 l=(zbG (bs l) && !(l.any (fun b=>b == 10)))):=(by show _=_;rw[<- zjQ];rfl);generalize zbG (bs l)=v at *;cases v
 ·go_enter Tryz.func245,Tryz.ntmps245;go_wp2_with fail;refine (HV.out _).mono ?_;rintro e w1 ⟨rfl,hk⟩;go_wp2_with fail;go_ret;exact ⟨zaH (by rw[HL.out];rfl),hk⟩
 ·go_enter Tryz.func245,Tryz.ntmps245;go_wp2_with fail;refine (HV.out _).mono ?_;rintro e w1 ⟨rfl,hk⟩;have HK:=Hd hk;clear hk;go_wp2_with fail
  go_loop [3] (fun i=>∃ k:Nat,k<=l.length/\i=.int .i64 k/\Hid (l.any (fun b=>b == 10)=(l.drop k).any (fun b=>b == 10))) (fun i=>l.length - (intOf i).toNat)
  case atStart=>exact ⟨0,Nat.zero_le _,rfl,zsG _ _⟩
  case round =>
   obtain ⟨k,hk,rfl,HA⟩:=hrel;by_cases hlt:k<l.length
   ·have i0:=zb6 (P:=Tryz.prog) (t:=9) Tryz.underlying9 l k hlt k rfl;have HN:=Hd (zkG (fun b=>b == 10) l k hlt);have HC:Hid (at8 l k=10↔l[k]=10):=(by show _↔_;rw[za7 l k hlt];exact zcZ _ 10 (by decide));generalize l[k]=x at *;generalize at8 l k=b at *;by_cases hb:b=10
    ·have HX:Hid (x=10):=HC.out.1 hb;go_wp2_with fail;go_ret;exact ⟨zaH (by rw[HL.out,HA.out,HN.out,HX.out];rfl),HK.out⟩
    ·have HX:Hid ((x == 10)=false):=(by show _=_;rw[beq_eq_false_iff_ne];exact fun q=>hb (HC.out.2 q));have hb':(b == 10)=false:=(by simpa using hb);clear hb;go_wp2_with fail
     go_round
     case rel=>exact ⟨k+1,by omega,by go_num,by show _=_;rw[HA.out,HN.out];simp only[HX.out,Bool.false_or]⟩
     case measure=>simp [intOf];omega
   ·go_wp2_with fail;go_ret;exact ⟨zaH (by rw[HL.out,HA.out,List.drop_of_length_le (by omega)];rfl),HK.out⟩
def zhW (c:Bool):Bs:=if c then zAQ else zFc
theorem ztN (x:UInt8) (b:Int) (h:b=(x.toNat:Int)) (n:Nat) (hn:n<256):(x == UInt8.ofNat n)=(b == (n:Int)):=by
 rw[Bool.eq_iff_iff,beq_iff_eq,beq_iff_eq,h];exact (zcZ x n hn).symm
theorem zBe (c:Bool) (x:UInt8) (b:Int) (h:b=(x.toNat:Int)):za9 (zhW c) x=((b == 59) || (b == 123) || (b == 125) || (c && (b == 44))):=by
 have h1:=ztN x b h 59 (by decide);have h2:=ztN x b h 123 (by decide);have h3:=ztN x b h 125 (by decide);have h4:=ztN x b h 44 (by decide);have e:za9 (zhW c) x=((x == 59) || (x == 123) || (x == 125) || (c && (x == 44))):=by
  unfold za9 zhW zAQ zFc;cases c
  ·simp only[Bool.false_eq_true,if_false,List.contains_cons,List.contains_nil,Bool.or_false,Bool.false_and];cases (x == 59) <;> cases (x == 123) <;> cases (x == 125) <;> rfl
  ·simp only[if_true,List.contains_cons,List.contains_nil,Bool.or_false,Bool.true_and];cases (x == 59) <;> cases (x == 123) <;> cases (x == 125) <;> cases (x == 44) <;> rfl
 rw[e];exact congr (congrArg or (congr (congrArg or (congr (congrArg or h1) h2)) h3)) (congrArg (and c) h4)
theorem zvE (l:Bs) (c:Bool) (w:World) (hs:l.length<=1000000000) :
  Calls Tryz.prog 247 #[.string (bs l),.bool c] w fun e w'=>e=.returned (.bool (l.any (za9 (zhW c))))/\w=w':=by
 go_enter Tryz.func247,Tryz.ntmps247;go_wp2_with fail
 go_loop [5] (fun i=>∃ k:Nat,k<=l.length/\i=.int .i64 k/\Hid (l.any (za9 (zhW c))=(l.drop k).any (za9 (zhW c)))) (fun i=>l.length - (intOf i).toNat)
 case atStart=>exact ⟨0,Nat.zero_le _,rfl,zsG _ _⟩
 case round =>
  obtain ⟨k,hk,rfl,HA⟩:=hrel;by_cases hlt:k<l.length
  ·have i0:=zb6 (P:=Tryz.prog) (t:=9) Tryz.underlying9 l k hlt k rfl;have HN:=Hd (zkG (za9 (zhW c)) l k hlt);have ht:=zBe c l[k] (at8 l k) (za7 l k hlt);have HC:=Hd ht;clear ht;generalize l[k]=x at *;generalize at8 l k=b at *;have tt:((b == 59)=true)\/((b == 59)=false/\(b == 123)=true)\/((b == 59)=false/\(b == 123)=false/\(b == 125)=true)\/((b == 59)=false/\(b == 123)=false/\(b == 125)=false/\(b == 44)=true)\/((b == 59)=false/\(b == 123)=false/\(b == 125)=false/\(b == 44)=false):=by
    cases (b == 59) <;> cases (b == 123) <;> cases (b == 125) <;> cases (b == 44) <;> simp
   rcases tt with t1|⟨t1,t2⟩|⟨t1,t2,t3⟩|⟨t1,t2,t3,t4⟩|⟨t1,t2,t3,t4⟩
   ·have HX:Hid (za9 (zhW c) x=true):=(by show _=_;rw[HC.out,t1];rfl);go_wp2_with fail;go_ret;exact ⟨zaH (by rw[HA.out,HN.out,HX.out];rfl),rfl⟩
   ·have HX:Hid (za9 (zhW c) x=true):=(by show _=_;rw[HC.out,t1,t2];rfl);go_wp2_with fail;go_ret;exact ⟨zaH (by rw[HA.out,HN.out,HX.out];rfl),rfl⟩
   ·have HX:Hid (za9 (zhW c) x=true):=(by show _=_;rw[HC.out,t1,t2,t3];rfl);go_wp2_with fail;go_ret;exact ⟨zaH (by rw[HA.out,HN.out,HX.out];rfl),rfl⟩
   ·have HX:Hid (za9 (zhW c) x=c):=(by show _=_;rw[HC.out,t1,t2,t3,t4];cases c <;> rfl);cases c
    ·go_wp2_with fail
     go_round
     case rel=>exact ⟨k+1,by omega,by go_num,by show _=_;rw[HA.out,HN.out,HX.out];rfl⟩
     case measure=>simp [intOf];omega
    ·go_wp2_with fail;go_ret;exact ⟨zaH (by rw[HA.out,HN.out,HX.out];rfl),rfl⟩
   ·have HX:Hid (za9 (zhW c) x=false):=(by show _=_;rw[HC.out,t1,t2,t3,t4];cases c <;> rfl);cases c
    all_goals
     go_wp2_with fail
     go_round
     case rel=>exact ⟨k+1,by omega,by go_num,by show _=_;rw[HA.out,HN.out,HX.out];rfl⟩
     case measure=>simp [intOf];omega
  ·go_wp2_with fail;go_ret;exact ⟨zaH (by rw[HA.out,List.drop_of_length_le (by omega)];rfl),rfl⟩
theorem zEu:Ascii zAQ:=by intro b hb;unfold zAQ at hb;simp at hb;rcases hb with rfl|rfl|rfl|rfl <;> decide
theorem zcB (l:Bs) (w:World) (hg:Gnd w) (hs:l.length<=100000000) :
  Calls Tryz.prog 218 #[.string (bs l)] w fun e w'=>e=.returned (.bool (zbM l))/\Kept w w':=by
 have HV:=Hd (fun w=>zBd l w (by omega));have HC:=Hd (fun w=>zBb l zAQ w zEu (by decide) (by decide) (by omega));have HK:=Hd (fun w hg=>zxJ l w hg hs);have HL:Hid (zbM l=(zd6 l && !(l.any (za9 zAQ)) && (l == zeS l))):=rfl;have HS:Hid (zAQ=[44,59,123,125]):=rfl;generalize zd6 l=v at *;generalize l.any (za9 zAQ)=c at *;generalize zeS l=m at *;cases v
 ·go_enter Tryz.func218,Tryz.ntmps218;go_wp2_with fail;refine (HV.out _).mono ?_;rintro e w1 ⟨rfl,n,rfl⟩;go_wp2_with fail;go_ret;exact ⟨zaH (by rw[HL.out];rfl),zaB _ _⟩
 ·go_enter Tryz.func218,Tryz.ntmps218;go_wp2_with fail;refine (HV.out _).mono ?_;rintro e w1 ⟨rfl,n,rfl⟩;have hg1:Gnd (w.drewN n):=hg;go_wp2_with fail;rw[<- HS.out];refine (HC.out _).mono ?_;rintro e w1 ⟨rfl,hk1⟩;have hg2:=hg1.kept hk1;have HK1:=Hd ((zaB w n).trans hk1);have HG2:=Hd hg2;clear hk1 hg2 hg1;cases c
  ·go_wp2_with fail;refine (HK.out _ HG2.out).mono ?_;rintro e w2 ⟨rfl,hk2⟩;have HK2:=Hd (HK1.out.trans hk2);clear hk2;go_wp2_with fail
   all_goals go_ret
   all_goals exact ⟨zaH (by rw[HL.out];simp [*]),HK2.out⟩
  ·go_wp2_with fail;go_ret;exact ⟨zaH (by rw[HL.out];rfl),HK1.out⟩
theorem zbX (l:Bs) (w:World) (hs:l.length<=100000000) :
  Calls Tryz.prog 204 #[.string (bs l)] w fun e w'=>e=.returned (.bool (zbM l))/\Kept w w':=by
 have HV:=Hd (fun w=>zxS l w (by omega));have HC:=Hd (fun w=>zvE l true w (by omega));have HK:=Hd (fun w=>zpW l w (by omega));have HL:Hid (zbM l=(zd6 l && !(l.any (za9 (zhW true))) && (l == zeS l))):=rfl;generalize zd6 l=v at *;generalize l.any (za9 (zhW true))=c at *;generalize zeS l=m at *;cases v
 ·go_enter Tryz.func204,Tryz.ntmps204;go_wp2_with fail;refine (HV.out _).mono ?_;rintro e w1 ⟨rfl,hk⟩;go_wp2_with fail;go_ret;exact ⟨zaH (by rw[HL.out];rfl),hk⟩
 ·have hlm:(l == m)=true/\l=m\/(l == m)=false/\(m == l)=false/\¬ m=l:=by
   by_cases q:l=m
   ·exact .inl ⟨by simp [q],q⟩
   ·refine .inr ⟨by simpa using q,by simpa using fun e=>q e.symm,fun e=>q e.symm⟩
  rcases hlm with ⟨q0,rfl⟩|⟨q0,q1,q2⟩
  ·go_enter Tryz.func204,Tryz.ntmps204;go_wp2_with fail;refine (HV.out _).mono ?_;rintro e w1 ⟨rfl,hk1⟩;go_wp2_with fail;refine (HK.out _).mono ?_;rintro e w2 ⟨rfl,rfl⟩;go_wp2_with fail;refine (HC.out _).mono ?_;rintro e w2 ⟨rfl,rfl⟩;cases c
   all_goals
    go_wp2_with fail;go_ret;exact ⟨zaH (by rw[HL.out];simp),hk1⟩
  ·have HL2:Hid (zbM l=false):=(by show _=_;rw[HL.out,q0];simp);clear q0 q2 HL;go_enter Tryz.func204,Tryz.ntmps204;go_wp2_with fail;refine (HV.out _).mono ?_;rintro e w1 ⟨rfl,hk1⟩;go_wp2_with fail;refine (HK.out _).mono ?_;rintro e w2 ⟨rfl,rfl⟩;go_wp2_with fail;go_ret;exact ⟨zaH (by rw[HL2.out]),hk1⟩
def zsH (f g p s:Bs):Bs :=
 (if p=[] then f else [123] ++ p ++ [125,32] ++ f) ++
 (if s=[] then (if g=[] then [] else [44,32] ++ g) else [44,32] ++ s ++ [44] ++ (if g=[] then [] else [32] ++ g))
def zeX (f g p s:Bs):Int:=if f=[] then 8 else if zbM f && zbM g && zbM p && zbM s then 0 else 17
def zf8 (f g p s:Bs):Bs:=if zeX f g p s=0 then zsH f g p s else []
theorem zxT (f g p s:Bs) (w:World) (hg:Gnd w) (hf:¬ f=[])  (hn:zbM f=false) (hs:f.length+g.length+p.length+s.length<=10000000) :
  Calls Tryz.prog 171 #[zf5 f g p s] w fun e w'=>e=.returned (.tuple #[.string (bs []),.int .i64 17])/\Kept w w':=by
 have hfe:f.isEmpty=false:=(by simpa using hf);go_enter Tryz.func171,Tryz.ntmps171;go_wp2_with fail;refine (zcB f _ (hg.kept (zaA _ _)) (by omega)).mono ?_;rintro e w1 ⟨rfl,hk0⟩;rw[hn];have HK0:=Hd hk0;obtain ⟨kc,kf⟩:=zaS HK0.out;have hz:w.heap.size<w1.heap.size:=(by have:=HK0.out.size;simp at this;omega);have HK:=Hd ((zaA w _).trans HK0.out);have HG:=Hd (hg.kept HK.out);clear hk0;go_wp2_with fail;go_ret2;exact ⟨rfl,HK.out⟩
theorem zxU (f g p s:Bs) (w:World) (hg:Gnd w) (hf:¬ f=[]) (y0:zbM f=true) (hn:zbM g=false) (hs:f.length+g.length+p.length+s.length<=10000000) :
  Calls Tryz.prog 171 #[zf5 f g p s] w fun e w'=>e=.returned (.tuple #[.string (bs []),.int .i64 17])/\Kept w w':=by
 have hfe:f.isEmpty=false:=(by simpa using hf);go_enter Tryz.func171,Tryz.ntmps171;go_wp2_with fail;refine (zcB f _ (hg.kept (zaA _ _)) (by omega)).mono ?_;rintro e w1 ⟨rfl,hk0⟩;rw[y0];have HK0:=Hd hk0;obtain ⟨kc,kf⟩:=zaS HK0.out;have hz:w.heap.size<w1.heap.size:=(by have:=HK0.out.size;simp at this;omega);have HK:=Hd ((zaA w _).trans HK0.out);have HG:=Hd (hg.kept HK.out);clear hk0;go_wp2_with fail;refine (zcB g _ HG.out (by omega)).mono ?_;rintro e w2 ⟨rfl,hk1⟩;rw[hn];have HK1:=Hd (HK0.out.trans hk1);clear kc kf hz HK HK0 HG;obtain ⟨kc,kf⟩:=zaS HK1.out;have hz:w.heap.size<w2.heap.size:=(by have:=HK1.out.size;simp at this;omega);have HK:=Hd ((zaA w _).trans HK1.out);have HG:=Hd (hg.kept HK.out);clear hk1;go_wp2_with fail;go_ret2;exact ⟨rfl,HK.out⟩
theorem zxV (f g p s:Bs) (w:World) (hg:Gnd w) (hf:¬ f=[]) (y0:zbM f=true) (y1:zbM g=true) (hn:zbM p=false) (hs:f.length+g.length+p.length+s.length<=10000000) :
  Calls Tryz.prog 171 #[zf5 f g p s] w fun e w'=>e=.returned (.tuple #[.string (bs []),.int .i64 17])/\Kept w w':=by
 have hfe:f.isEmpty=false:=(by simpa using hf);go_enter Tryz.func171,Tryz.ntmps171;go_wp2_with fail;refine (zcB f _ (hg.kept (zaA _ _)) (by omega)).mono ?_;rintro e w1 ⟨rfl,hk0⟩;rw[y0];have HK0:=Hd hk0;obtain ⟨kc,kf⟩:=zaS HK0.out;have hz:w.heap.size<w1.heap.size:=(by have:=HK0.out.size;simp at this;omega);have HK:=Hd ((zaA w _).trans HK0.out);have HG:=Hd (hg.kept HK.out);clear hk0;go_wp2_with fail;refine (zcB g _ HG.out (by omega)).mono ?_;rintro e w2 ⟨rfl,hk1⟩;rw[y1];have HK1:=Hd (HK0.out.trans hk1);clear kc kf hz HK HK0 HG;obtain ⟨kc,kf⟩:=zaS HK1.out;have hz:w.heap.size<w2.heap.size:=(by have:=HK1.out.size;simp at this;omega);have HK:=Hd ((zaA w _).trans HK1.out);have HG:=Hd (hg.kept HK.out);clear hk1;go_wp2_with fail;refine (zcB p _ HG.out (by omega)).mono ?_;rintro e w3 ⟨rfl,hk2⟩;rw[hn];have HK2:=Hd (HK1.out.trans hk2);clear kc kf hz HK HK1 HG;obtain ⟨kc,kf⟩:=zaS HK2.out;have hz:w.heap.size<w3.heap.size:=(by have:=HK2.out.size;simp at this;omega);have HK:=Hd ((zaA w _).trans HK2.out);have HG:=Hd (hg.kept HK.out);clear hk2;go_wp2_with fail;go_ret2;exact ⟨rfl,HK.out⟩
theorem zxW (f g p s:Bs) (w:World) (hg:Gnd w) (hf:¬ f=[]) (y0:zbM f=true) (y1:zbM g=true) (y2:zbM p=true) (hn:zbM s=false) (hs:f.length+g.length+p.length+s.length<=10000000) :
  Calls Tryz.prog 171 #[zf5 f g p s] w fun e w'=>e=.returned (.tuple #[.string (bs []),.int .i64 17])/\Kept w w':=by
 have hfe:f.isEmpty=false:=(by simpa using hf);go_enter Tryz.func171,Tryz.ntmps171;go_wp2_with fail;refine (zcB f _ (hg.kept (zaA _ _)) (by omega)).mono ?_;rintro e w1 ⟨rfl,hk0⟩;rw[y0];have HK0:=Hd hk0;obtain ⟨kc,kf⟩:=zaS HK0.out;have hz:w.heap.size<w1.heap.size:=(by have:=HK0.out.size;simp at this;omega);have HK:=Hd ((zaA w _).trans HK0.out);have HG:=Hd (hg.kept HK.out);clear hk0;go_wp2_with fail;refine (zcB g _ HG.out (by omega)).mono ?_;rintro e w2 ⟨rfl,hk1⟩;rw[y1];have HK1:=Hd (HK0.out.trans hk1);clear kc kf hz HK HK0 HG;obtain ⟨kc,kf⟩:=zaS HK1.out;have hz:w.heap.size<w2.heap.size:=(by have:=HK1.out.size;simp at this;omega);have HK:=Hd ((zaA w _).trans HK1.out);have HG:=Hd (hg.kept HK.out);clear hk1;go_wp2_with fail;refine (zcB p _ HG.out (by omega)).mono ?_;rintro e w3 ⟨rfl,hk2⟩;rw[y2];have HK2:=Hd (HK1.out.trans hk2);clear kc kf hz HK HK1 HG;obtain ⟨kc,kf⟩:=zaS HK2.out;have hz:w.heap.size<w3.heap.size:=(by have:=HK2.out.size;simp at this;omega);have HK:=Hd ((zaA w _).trans HK2.out);have HG:=Hd (hg.kept HK.out);clear hk2;go_wp2_with fail;refine (zcB s _ HG.out (by omega)).mono ?_;rintro e w4 ⟨rfl,hk3⟩;rw[hn];have HK3:=Hd (HK2.out.trans hk3);clear kc kf hz HK HK2 HG;obtain ⟨kc,kf⟩:=zaS HK3.out;have hz:w.heap.size<w4.heap.size:=(by have:=HK3.out.size;simp at this;omega);have HK:=Hd ((zaA w _).trans HK3.out);have HG:=Hd (hg.kept HK.out);clear hk3;go_wp2_with fail;go_ret2;exact ⟨rfl,HK.out⟩
theorem zDo (f g p s:Bs) (w:World) (hg:Gnd w) (hf:¬ f=[]) (y0:zbM f=true) (y1:zbM g=true) (y2:zbM p=true) (y3:zbM s=true) (hs:f.length+g.length+p.length+s.length<=10000000) :
  Calls Tryz.prog 171 #[zf5 f g p s] w fun e w'=>e=.returned (.tuple #[.string (bs (zsH f g p s)),.int .i64 0])/\Kept w w':=by
 have hfe:f.isEmpty=false:=(by simpa using hf);go_enter Tryz.func171,Tryz.ntmps171;go_wp2_with fail;refine (zcB f _ (hg.kept (zaA _ _)) (by omega)).mono ?_;rintro e w1 ⟨rfl,hk0⟩;rw[y0];have HK0:=Hd hk0;obtain ⟨kc,kf⟩:=zaS HK0.out;have hz:w.heap.size<w1.heap.size:=(by have:=HK0.out.size;simp at this;omega);have HK:=Hd ((zaA w _).trans HK0.out);have HG:=Hd (hg.kept HK.out);clear hk0;go_wp2_with fail;refine (zcB g _ HG.out (by omega)).mono ?_;rintro e w2 ⟨rfl,hk1⟩;rw[y1];have HK1:=Hd (HK0.out.trans hk1);clear kc kf hz HK HK0 HG;obtain ⟨kc,kf⟩:=zaS HK1.out;have hz:w.heap.size<w2.heap.size:=(by have:=HK1.out.size;simp at this;omega);have HK:=Hd ((zaA w _).trans HK1.out);have HG:=Hd (hg.kept HK.out);clear hk1;go_wp2_with fail;refine (zcB p _ HG.out (by omega)).mono ?_;rintro e w3 ⟨rfl,hk2⟩;rw[y2];have HK2:=Hd (HK1.out.trans hk2);clear kc kf hz HK HK1 HG;obtain ⟨kc,kf⟩:=zaS HK2.out;have hz:w.heap.size<w3.heap.size:=(by have:=HK2.out.size;simp at this;omega);have HK:=Hd ((zaA w _).trans HK2.out);have HG:=Hd (hg.kept HK.out);clear hk2;go_wp2_with fail;refine (zcB s _ HG.out (by omega)).mono ?_;rintro e w4 ⟨rfl,hk3⟩;rw[y3];have HK3:=Hd (HK2.out.trans hk3);clear kc kf hz HK HK2 HG;obtain ⟨kc,kf⟩:=zaS HK3.out;have hz:w.heap.size<w4.heap.size:=(by have:=HK3.out.size;simp at this;omega);have HK:=Hd ((zaA w _).trans HK3.out);have HG:=Hd (hg.kept HK.out);clear hk3;by_cases hp:p=[] <;> by_cases hs':s=[] <;> by_cases hg':g=[]
 all_goals
  first|subst hp|(have hpe:p.isEmpty=false:=by simpa using hp)
  first|subst hs'|(have hse:s.isEmpty=false:=by simpa using hs')
  first|subst hg'|(have hge:g.isEmpty=false:=by simpa using hg')
  try simp only[List.length_nil,Nat.add_zero,Nat.zero_add] at hs
  go_wp2_with fail;go_ret2;refine ⟨?_,HK.out⟩;refine congrArg (fun x=>Ending.returned (.tuple #[.string (bs x),.int .i64 0])) ?_;simp [zsH, *]
theorem ztO (f g p s:Bs) (w:World) (hg:Gnd w) (hs:f.length+g.length+p.length+s.length<=10000000) :
  Calls Tryz.prog 171 #[zf5 f g p s] w fun e w'=>e=.returned (.tuple #[.string (bs (zf8 f g p s)),.int .i64 (zeX f g p s)])/\Kept w w':=by
 by_cases hf:f=[]
 ·have e1:zeX f g p s=8:=(by unfold zeX;rw[if_pos hf]);have e2:zf8 f g p s=[]:=(by unfold zf8;rw[e1];rfl);rw[e1,e2];clear e1 e2;subst hf;go_enter Tryz.func171,Tryz.ntmps171;go_wp2_with fail;go_ret2;exact ⟨rfl,zaA _ _⟩
 have hb:∀ q:Bool,(zbM f && zbM g && zbM p && zbM s)=q->zeX f g p s=if q then 0 else 17:=by
  intro q h;unfold zeX;rw[if_neg hf,h]
 have hr:zeX f g p s=17->zf8 f g p s=[]:=(by intro h;unfold zf8;rw[h];rfl);cases h0:zbM f
 ·have e:=hb false (by rw[h0];rfl);rw[if_neg (by decide)] at e;rw[e,hr e];exact zxT f g p s w hg hf h0 hs
 cases h1:zbM g
 ·have e:=hb false (by rw[h0,h1];rfl);rw[if_neg (by decide)] at e;rw[e,hr e];exact zxU f g p s w hg hf h0 h1 hs
 cases h2:zbM p
 ·have e:=hb false (by rw[h0,h1,h2];rfl);rw[if_neg (by decide)] at e;rw[e,hr e];exact zxV f g p s w hg hf h0 h1 h2 hs
 cases h3:zbM s
 ·have e:=hb false (by rw[h0,h1,h2,h3];rfl);rw[if_neg (by decide)] at e;rw[e,hr e];exact zxW f g p s w hg hf h0 h1 h2 h3 hs
 ·have e:=hb true (by rw[h0,h1,h2,h3];rfl);rw[if_pos rfl] at e;have e2:zf8 f g p s=zsH f g p s:=(by unfold zf8;rw[e];rfl);rw[e,e2];exact zDo f g p s w hg hf h0 h1 h2 h3 hs
theorem zvF (f g p s:Bs) (w:World) (hf:¬ f=[])  (hn:zbM f=false) (hs:f.length+g.length+p.length+s.length<=10000000) :
  Calls Tryz.prog 155 #[zf5 f g p s] w fun e w'=>e=.returned (.tuple #[.string (bs []),.int .i64 17])/\Kept w w':=by
 have hfe:f.isEmpty=false:=(by simpa using hf);go_enter Tryz.func155,Tryz.ntmps155;go_wp2_with fail;refine (zbX f _ (by omega)).mono ?_;rintro e w1 ⟨rfl,hk0⟩;rw[hn];have HK0:=Hd hk0;obtain ⟨kc,kf⟩:=zaS HK0.out;have hz:w.heap.size<w1.heap.size:=(by have:=HK0.out.size;simp at this;omega);have HK:=Hd ((zaA w _).trans HK0.out);clear hk0;go_wp2_with fail;go_ret2;exact ⟨rfl,HK.out⟩
theorem zvG (f g p s:Bs) (w:World) (hf:¬ f=[]) (y0:zbM f=true) (hn:zbM g=false) (hs:f.length+g.length+p.length+s.length<=10000000) :
  Calls Tryz.prog 155 #[zf5 f g p s] w fun e w'=>e=.returned (.tuple #[.string (bs []),.int .i64 17])/\Kept w w':=by
 have hfe:f.isEmpty=false:=(by simpa using hf);go_enter Tryz.func155,Tryz.ntmps155;go_wp2_with fail;refine (zbX f _ (by omega)).mono ?_;rintro e w1 ⟨rfl,hk0⟩;rw[y0];have HK0:=Hd hk0;obtain ⟨kc,kf⟩:=zaS HK0.out;have hz:w.heap.size<w1.heap.size:=(by have:=HK0.out.size;simp at this;omega);have HK:=Hd ((zaA w _).trans HK0.out);clear hk0;go_wp2_with fail;refine (zbX g _ (by omega)).mono ?_;rintro e w2 ⟨rfl,hk1⟩;rw[hn];have HK1:=Hd (HK0.out.trans hk1);clear kc kf hz HK HK0;obtain ⟨kc,kf⟩:=zaS HK1.out;have hz:w.heap.size<w2.heap.size:=(by have:=HK1.out.size;simp at this;omega);have HK:=Hd ((zaA w _).trans HK1.out);clear hk1;go_wp2_with fail;go_ret2;exact ⟨rfl,HK.out⟩
theorem zvH (f g p s:Bs) (w:World) (hf:¬ f=[]) (y0:zbM f=true) (y1:zbM g=true) (hn:zbM p=false) (hs:f.length+g.length+p.length+s.length<=10000000) :
  Calls Tryz.prog 155 #[zf5 f g p s] w fun e w'=>e=.returned (.tuple #[.string (bs []),.int .i64 17])/\Kept w w':=by
 have hfe:f.isEmpty=false:=(by simpa using hf);go_enter Tryz.func155,Tryz.ntmps155;go_wp2_with fail;refine (zbX f _ (by omega)).mono ?_;rintro e w1 ⟨rfl,hk0⟩;rw[y0];have HK0:=Hd hk0;obtain ⟨kc,kf⟩:=zaS HK0.out;have hz:w.heap.size<w1.heap.size:=(by have:=HK0.out.size;simp at this;omega);have HK:=Hd ((zaA w _).trans HK0.out);clear hk0;go_wp2_with fail;refine (zbX g _ (by omega)).mono ?_;rintro e w2 ⟨rfl,hk1⟩;rw[y1];have HK1:=Hd (HK0.out.trans hk1);clear kc kf hz HK HK0;obtain ⟨kc,kf⟩:=zaS HK1.out;have hz:w.heap.size<w2.heap.size:=(by have:=HK1.out.size;simp at this;omega);have HK:=Hd ((zaA w _).trans HK1.out);clear hk1;go_wp2_with fail;refine (zbX p _ (by omega)).mono ?_;rintro e w3 ⟨rfl,hk2⟩;rw[hn];have HK2:=Hd (HK1.out.trans hk2);clear kc kf hz HK HK1;obtain ⟨kc,kf⟩:=zaS HK2.out;have hz:w.heap.size<w3.heap.size:=(by have:=HK2.out.size;simp at this;omega);have HK:=Hd ((zaA w _).trans HK2.out);clear hk2;go_wp2_with fail;go_ret2;exact ⟨rfl,HK.out⟩
theorem zvI (f g p s:Bs) (w:World) (hf:¬ f=[]) (y0:zbM f=true) (y1:zbM g=true) (y2:zbM p=true) (hn:zbM s=false) (hs:f.length+g.length+p.length+s.length<=10000000) :
  Calls Tryz.prog 155 #[zf5 f g p s] w fun e w'=>e=.returned (.tuple #[.string (bs []),.int .i64 17])/\Kept w w':=by
 have hfe:f.isEmpty=false:=(by simpa using hf);go_enter Tryz.func155,Tryz.ntmps155;go_wp2_with fail;refine (zbX f _ (by omega)).mono ?_;rintro e w1 ⟨rfl,hk0⟩;rw[y0];have HK0:=Hd hk0;obtain ⟨kc,kf⟩:=zaS HK0.out;have hz:w.heap.size<w1.heap.size:=(by have:=HK0.out.size;simp at this;omega);have HK:=Hd ((zaA w _).trans HK0.out);clear hk0;go_wp2_with fail;refine (zbX g _ (by omega)).mono ?_;rintro e w2 ⟨rfl,hk1⟩;rw[y1];have HK1:=Hd (HK0.out.trans hk1);clear kc kf hz HK HK0;obtain ⟨kc,kf⟩:=zaS HK1.out;have hz:w.heap.size<w2.heap.size:=(by have:=HK1.out.size;simp at this;omega);have HK:=Hd ((zaA w _).trans HK1.out);clear hk1;go_wp2_with fail;refine (zbX p _ (by omega)).mono ?_;rintro e w3 ⟨rfl,hk2⟩;rw[y2];have HK2:=Hd (HK1.out.trans hk2);clear kc kf hz HK HK1;obtain ⟨kc,kf⟩:=zaS HK2.out;have hz:w.heap.size<w3.heap.size:=(by have:=HK2.out.size;simp at this;omega);have HK:=Hd ((zaA w _).trans HK2.out);clear hk2;go_wp2_with fail;refine (zbX s _ (by omega)).mono ?_;rintro e w4 ⟨rfl,hk3⟩;rw[hn];have HK3:=Hd (HK2.out.trans hk3);clear kc kf hz HK HK2;obtain ⟨kc,kf⟩:=zaS HK3.out;have hz:w.heap.size<w4.heap.size:=(by have:=HK3.out.size;simp at this;omega);have HK:=Hd ((zaA w _).trans HK3.out);clear hk3;go_wp2_with fail;go_ret2;exact ⟨rfl,HK.out⟩
theorem zBf (f g p s:Bs) (w:World) (hf:¬ f=[]) (y0:zbM f=true) (y1:zbM g=true) (y2:zbM p=true) (y3:zbM s=true) (hs:f.length+g.length+p.length+s.length<=10000000) :
  Calls Tryz.prog 155 #[zf5 f g p s] w fun e w'=>e=.returned (.tuple #[.string (bs (zsH f g p s)),.int .i64 0])/\Kept w w':=by
 have hfe:f.isEmpty=false:=(by simpa using hf);go_enter Tryz.func155,Tryz.ntmps155;go_wp2_with fail;refine (zbX f _ (by omega)).mono ?_;rintro e w1 ⟨rfl,hk0⟩;rw[y0];have HK0:=Hd hk0;obtain ⟨kc,kf⟩:=zaS HK0.out;have hz:w.heap.size<w1.heap.size:=(by have:=HK0.out.size;simp at this;omega);have HK:=Hd ((zaA w _).trans HK0.out);clear hk0;go_wp2_with fail;refine (zbX g _ (by omega)).mono ?_;rintro e w2 ⟨rfl,hk1⟩;rw[y1];have HK1:=Hd (HK0.out.trans hk1);clear kc kf hz HK HK0;obtain ⟨kc,kf⟩:=zaS HK1.out;have hz:w.heap.size<w2.heap.size:=(by have:=HK1.out.size;simp at this;omega);have HK:=Hd ((zaA w _).trans HK1.out);clear hk1;go_wp2_with fail;refine (zbX p _ (by omega)).mono ?_;rintro e w3 ⟨rfl,hk2⟩;rw[y2];have HK2:=Hd (HK1.out.trans hk2);clear kc kf hz HK HK1;obtain ⟨kc,kf⟩:=zaS HK2.out;have hz:w.heap.size<w3.heap.size:=(by have:=HK2.out.size;simp at this;omega);have HK:=Hd ((zaA w _).trans HK2.out);clear hk2;go_wp2_with fail;refine (zbX s _ (by omega)).mono ?_;rintro e w4 ⟨rfl,hk3⟩;rw[y3];have HK3:=Hd (HK2.out.trans hk3);clear kc kf hz HK HK2;obtain ⟨kc,kf⟩:=zaS HK3.out;have hz:w.heap.size<w4.heap.size:=(by have:=HK3.out.size;simp at this;omega);have HK:=Hd ((zaA w _).trans HK3.out);clear hk3;by_cases hp:p=[] <;> by_cases hs':s=[] <;> by_cases hg':g=[]
 all_goals
  first|subst hp|(have hpe:p.isEmpty=false:=by simpa using hp)
  first|subst hs'|(have hse:s.isEmpty=false:=by simpa using hs')
  first|subst hg'|(have hge:g.isEmpty=false:=by simpa using hg')
  try simp only[List.length_nil,Nat.add_zero,Nat.zero_add] at hs
  go_wp2_with fail;go_ret2;refine ⟨?_,HK.out⟩;refine congrArg (fun x=>Ending.returned (.tuple #[.string (bs x),.int .i64 0])) ?_;simp [zsH, *]
theorem zxX (f g p s:Bs) (w:World) (hs:f.length+g.length+p.length+s.length<=10000000) :
  Calls Tryz.prog 155 #[zf5 f g p s] w fun e w'=>e=.returned (.tuple #[.string (bs (zf8 f g p s)),.int .i64 (zeX f g p s)])/\Kept w w':=by
 by_cases hf:f=[]
 ·have e1:zeX f g p s=8:=(by unfold zeX;rw[if_pos hf]);have e2:zf8 f g p s=[]:=(by unfold zf8;rw[e1];rfl);rw[e1,e2];clear e1 e2;subst hf;go_enter Tryz.func155,Tryz.ntmps155;go_wp2_with fail;go_ret2;exact ⟨rfl,zaA _ _⟩
 have hb:∀ q:Bool,(zbM f && zbM g && zbM p && zbM s)=q->zeX f g p s=if q then 0 else 17:=by
  intro q h;unfold zeX;rw[if_neg hf,h]
 have hr:zeX f g p s=17->zf8 f g p s=[]:=(by intro h;unfold zf8;rw[h];rfl);cases h0:zbM f
 ·have e:=hb false (by rw[h0];rfl);rw[if_neg (by decide)] at e;rw[e,hr e];exact zvF f g p s w hf h0 hs
 cases h1:zbM g
 ·have e:=hb false (by rw[h0,h1];rfl);rw[if_neg (by decide)] at e;rw[e,hr e];exact zvG f g p s w hf h0 h1 hs
 cases h2:zbM p
 ·have e:=hb false (by rw[h0,h1,h2];rfl);rw[if_neg (by decide)] at e;rw[e,hr e];exact zvH f g p s w hf h0 h1 h2 hs
 cases h3:zbM s
 ·have e:=hb false (by rw[h0,h1,h2,h3];rfl);rw[if_neg (by decide)] at e;rw[e,hr e];exact zvI f g p s w hf h0 h1 h2 h3 hs
 ·have e:=hb true (by rw[h0,h1,h2,h3];rfl);rw[if_pos rfl] at e;have e2:zf8 f g p s=zsH f g p s:=(by unfold zf8;rw[e];rfl);rw[e,e2];exact zBf f g p s w hf h0 h1 h2 h3 hs
abbrev P4:=Bs × Bs × Bs × Bs
abbrev p4V (q:P4):Value:=zf5 q.1 q.2.1 q.2.2.1 q.2.2.2
def zFs (p t:Bs):Prop:=2<t.count 44\/p.any (za9 zAQ)=true\/t.any (za9 zFc)=true
instance (p t:Bs):Decidable (zFs p t):=by unfold zFs;infer_instance
def Perss (w:World) (v:Value) (ps:List P4):Prop :=
 ∃ a c,v=.slice a ps.length c/\ps.length<=c/\(0<ps.length->∃ g o,a=some ⟨g,o,none⟩/\g<w.heap.size/\∀ j q,ps[j]? = some q ->
  w.cell? ⟨g,o+j * 4,none⟩=some (.string (bs q.1))/\w.cell? ⟨g,o+j * 4+1,none⟩=some (.string (bs q.2.1))/\w.cell? ⟨g,o+j * 4+2,none⟩=some (.string (bs q.2.2.1))/\w.cell? ⟨g,o+j * 4+3,none⟩=some (.string (bs q.2.2.2)))
theorem Perss.kept {w w':World} {v:Value} {ps:List P4} (h:Perss w v ps) (k:Kept w w'):Perss w' v ps:=by
 obtain ⟨a,c,hv,hc,h3⟩:=h;refine ⟨a,c,hv,hc,fun q=>?_⟩;obtain ⟨g,o,ha,hg,hcell⟩:=h3 q;refine ⟨g,o,ha,Nat.lt_of_lt_of_le hg k.size,fun j x hx=>?_⟩;obtain ⟨c0,c1,c2,c3⟩:=hcell j x hx;exact ⟨(k.cell (p:=⟨g,o+j * 4,none⟩) hg).trans c0,(k.cell (p:=⟨g,o+j * 4+1,none⟩) hg).trans c1,(k.cell (p:=⟨g,o+j * 4+2,none⟩) hg).trans c2,(k.cell (p:=⟨g,o+j * 4+3,none⟩) hg).trans c3⟩
theorem Perss.cut {w:World} {a:Option Addr} {c:Nat} {ps:List P4} (h:Perss w (.slice a ps.length c) ps) (n:Nat) (hn:n<=ps.length):Perss w (.slice a n c) (ps.take n):=by
 obtain ⟨a',c',hv,hc,h3⟩:=h;obtain ⟨rfl,_,rfl⟩:=Value.slice.inj hv;refine ⟨a,c,by simp;omega,by simp;omega,fun q=>?_⟩;obtain ⟨g,o,ha,hg,hcell⟩:=h3 (by simp at q;omega);refine ⟨g,o,ha,hg,fun j x hx=>hcell j x ?_⟩;rw[List.getElem?_take] at hx
 split at hx
 ·exact hx
 ·cases hx
def zaT (full:Bool) (q:P4):Bs:=if full then zdR [q.2.1,q.2.2.1,q.1,q.2.2.2] else zdR [q.2.2.1,q.1]
def zm8 (l:Bs):Bs:=if (zeJ l).isSome then l else lEn
def zfX (ps:List P4) (l:Bs) (most:Int) (full:Bool):Bs :=
 if 1<=most/\most<ps.length then Lib.join ((ps.take most.toNat).map (zaT full)) ziV ++ [32] ++ (zeJ (zm8 l)).getD [] ++ [32] ++ (zdX (zm8 l)).getD []
 else zm6 (zm8 l) (ps.map (zaT full))
def zd7 (q:P4):Nat:=q.1.length+q.2.1.length+q.2.2.1.length+q.2.2.2.length
theorem zxY (full:Bool) (q:P4):(zaT full q).length<=zd7 q+4:=by
 unfold zaT zd7;cases full
 ·have:=zeV [q.2.2.1,q.1];simp [zu2] at this;simp;omega
 ·have:=zeV [q.2.1,q.2.2.1,q.1,q.2.2.2];simp [zu2] at this;simp;omega
theorem zcH (m:Nat):∀ xs:List Bs,(∀ x∈xs,x.length<=m)->(Lib.join xs ziV).length<=xs.length * (m+2)
 | [],_=>by rw[Lib.join_nil];simp
 | x :: xs,h=>by
  have ht:∀ r:List Bs,(∀ x∈r,x.length<=m)->(Lib.joinTail ziV r).length<=r.length * (m+2):=by
   intro r
   induction r with
   | nil=>intro _;simp [Lib.joinTail]
   | cons b r ih =>
    intro hr;have h1:=ih (fun x hx=>hr x (by simp [hx]));have h2:=hr b (by simp);unfold Lib.joinTail at h1 ⊢;simp only[List.map_cons,List.flatten_cons,List.length_append,List.length_cons,Nat.add_mul,Nat.one_mul];simp only[ziV,List.length_cons,List.length_nil] at h1 ⊢;omega
  have h1:=ht xs (fun x hx=>h x (by simp [hx]));have h2:=h x (by simp);rw[Lib.join_cons];simp only[List.length_append,List.length_cons,Nat.add_mul,Nat.one_mul];omega
theorem zn5 (f:P4->Bs) (ps:List P4) (k:Nat) (q:P4) (h:ps[k]? = some q):(ps.take (k+1)).map f=(ps.take k).map f ++ [f q]:=by
 obtain ⟨hk,rfl⟩:=List.getElem?_eq_some_iff.1 h;rw[List.take_succ_eq_append_getElem hk,List.map_append];rfl
theorem zdE (full:Bool) (ps:List P4) (h:∀ q∈ps,zd7 q<=10000):∀ x∈ps.map (zaT full),x.length<=10004:=by
 intro x hx;obtain ⟨q,hq,rfl⟩:=List.mem_map.1 hx;have:=zxY full q;have:=h q hq;omega
theorem zlD (w:World) (q:P4) (h:zd7 q<=10000):Calls Tryz.prog 163 #[p4V q] w fun e w'=>e=.returned (.string (bs (zaT true q)))/\Kept w w' :=
 zA4 q.1 q.2.1 q.2.2.1 q.2.2.2 w (by unfold zd7 at h;simp [zu2];omega)
theorem ziY (w:World) (q:P4) (h:zd7 q<=10000):Calls Tryz.prog 136 #[p4V q] w fun e w'=>e=.returned (.string (bs (zaT false q)))/\Kept w w' :=
 zpN q.1 q.2.1 q.2.2.1 q.2.2.2 w (by unfold zd7 at h;simp [zu2];omega)
theorem zjR (l:Bs):((zdX l).getD []).length<=6:=by
 unfold zdX;by_cases h1:l=lEn
 ·rw[if_pos h1];decide
 by_cases h2:l=lDe
 ·rw[if_neg h1,if_pos h2];decide
 by_cases h3:l=lFr
 ·rw[if_neg h1,if_neg h2,if_pos h3];decide
 by_cases h4:l=lEs
 ·rw[if_neg h1,if_neg h2,if_neg h3,if_pos h4];decide
 ·rw[if_neg h1,if_neg h2,if_neg h3,if_neg h4];decide
theorem zxZ (v:Value) (ps:List P4) (l:Bs) (most:Int) (full:Bool) (w:World) (hv:Perss w v ps) (hN:ps.length<=900) (hq:∀ q∈ps,zd7 q<=10000) (L:Bs) (hL:((zeJ l).isSome=true/\L=l)\/((zeJ l).isSome=false/\L=lEn)) (hm1:1<=most) (hm2:most<ps.length) (hmr : -9223372036854775808<=most/\most<=9223372036854775807) :
  Calls Tryz.prog 119 #[v,.string (bs l),.int .i64 most,.bool full] w fun e w'=>e=.returned (.string (bs (Lib.join ((ps.take most.toNat).map (zaT full)) ziV ++ [32] ++ (zeJ L).getD [] ++ [32] ++ (zdX L).getD [])))/\Kept w w':=by
 obtain ⟨i0,hi,hz0,hz1,hz2⟩:=info_parts Tryz.infoStr;have HV:=Hd hv;have HQ:=Hd hq;clear hq;obtain ⟨a,c,rfl,hc,h3⟩:=hv;clear h3;obtain ⟨m,rfl⟩:∃ m:Nat,most=m:=⟨most.toNat,by omega⟩;obtain ⟨xs,hxs⟩:∃ xs,xs=ps.take m:=⟨_,rfl⟩;have hxl:xs.length=m:=(by rw[hxs];simp;omega);have HX:Hid (Perss w (.slice a m c) xs):=(by show Perss _ _ _;rw[hxs];exact HV.out.cut m (by omega));have HXQ:Hid (∀ q∈xs,zd7 q<=10000):=(by intro q h;rw[hxs] at h;exact HQ.out q (List.mem_of_mem_take h));have HE:Hid (Lib.join ((ps.take ((m:Int)).toNat).map (zaT full)) ziV=Lib.join (xs.map (zaT full)) ziV):=(by show _=_;rw[hxs];simp);have HLEN:=Hd hxl;have hml:m<=900:=(by omega);clear hxs hxl hc;have hc:m<=c:=(by obtain ⟨a',c',hv,hc,h3⟩:=HX.out;obtain ⟨_,h1,h2⟩:=Value.slice.inj hv;omega);have HA:=Hd (fun w=>zgL L 1 w);have HO:=Hd (fun w=>zr3 L 2 w);have hal:=zk7 L;have hol:=zjR L;have HSP:Hid (ziV=[44,32]):=rfl;generalize (zeJ L).getD []=an at *;generalize (zeJ L).isSome=an1 at *;generalize (zdX L).getD []=ot at *;generalize (zdX L).isSome=ot1 at *;have hm1':decide ((1:Int)<=(m:Int))=true:=(by simpa using hm1);have hm2':decide (m<ps.length)=true:=(by simp;omega);have hm3:1<=m:=(by omega);have hm4:m<ps.length:=(by omega);clear hm1 hm2 hmr;rcases hL with ⟨hk,hLe⟩|⟨hk,hLe⟩
 case' inl=>obtain ⟨an0,HT⟩:∃ an0,Hid (∀ w,Calls Tryz.prog 162 #[.string (bs l),.string (bs [97,110,100]),.int .i64 1] w fun e w'=>e=.returned (.tuple #[.string (bs an0),.bool true])/\Kept w w'):=⟨_,fun w=>by have:=zgL l 1 w;rw[hk] at this;exact this⟩
 case' inr=>obtain ⟨an0,HT⟩:∃ an0,Hid (∀ w,Calls Tryz.prog 162 #[.string (bs l),.string (bs [97,110,100]),.int .i64 1] w fun e w'=>e=.returned (.tuple #[.string (bs an0),.bool false])/\Kept w w'):=⟨_,fun w=>by have:=zgL l 1 w;rw[hk] at this;exact this⟩
 all_goals
  clear hk;subst hLe;go_enter Tryz.func119,Tryz.ntmps119;go_wp2_with fail;refine (HT.out _).mono ?_;rintro e w1 ⟨rfl,hk1⟩;have HK1:=Hd hk1;clear hk1;go_wp2_with fail
  (try simp only[zd4])
  go_loopw [12,40] (fun v i wr=>∃ (k:Nat),k<=m/\i=.int .i64 k/\wr.ownsRow w1.heap.size 9 1 v ((xs.take k).map (zaT full)).length (zaG ((xs.take k).map (zaT full)))/\Kept w1 wr) (fun _ i _=>m - (intOf i).toNat)
  case atStart=>exact ⟨0,Nat.zero_le _,rfl,World.ownsRow_nil _ _ _ _,Kept.refl _⟩
  case round =>
   obtain ⟨k,hkl,rfl,hown,hkr⟩:=hrel;by_cases hlt:k<m
   ·obtain ⟨q,hx⟩:∃ x,xs[k]? = some x:=⟨_,List.getElem?_eq_getElem (by rw[HLEN.out];exact hlt)⟩;obtain ⟨a',c',hv',hc',h3⟩:=(HX.out.kept HK1.out).kept hkr;obtain ⟨rfl,hdead,rfl⟩:=Value.slice.inj hv';clear hdead;obtain ⟨g,o,rfl,hg,hcc⟩:=h3 (by rw[HLEN.out];omega);obtain ⟨c0,c1,c2,c3⟩:=hcc k q hx;have hqs:=HXQ.out q (List.mem_of_getElem? hx);have HF:=Hd (zn5 (zaT full) xs k q hx);have hfl:((xs.take k).map (zaT full)).length<=k:=(by simp;omega);generalize (xs.take k).map (zaT full)=ws at *;have hsz:w1.heap.size<=wr.heap.size:=hkr.size;have HR:=Hd hkr;have HW:=Hd hown;have HNF:=Hd (fun w=>zlD w q hqs);have HNS:=Hd (fun w=>ziY w q hqs);clear hkr hx hown hcc h3 hv' hc';obtain ⟨qf,qg,qp,qs⟩:=q;simp only at c0 c1 c2 c3;cases full
    ·have HNAME:=HNS;clear HNF HNS;go_wp2_with fail;refine (HNAME.out _).mono ?_;rintro e w2 ⟨rfl,hk2⟩;generalize zaT false (qf,qg,qp,qs)=nm at *;have hown:=zaX (HW.out.alloc (.cells #[.string (bs qf),.string (bs qg),.string (bs qp),.string (bs qs)] 77)) hk2;have HR2:=Hd ((HR.out.trans (zaA wr _)).trans hk2);have hsz2:w1.heap.size<=w2.heap.size:=HR2.out.size;clear hk2;go_wp2_with (at_builtin;refine wpList_append_own _ rfl _ _ 29 rfl w1.heap.size 9 i0 (.string ⟨#[]⟩) 1 16 Tryz.underlying29 hi hz0 hz1 hz2 rfl (by decide) _ _ _ rfl (hown.alloc _) ⟨w2.heap.size,0,none⟩ 1 1 [.string (bs nm)] rfl rfl ?_ ?_ ?_ ?_ ?_ ?_)
     ·exact za5 _ #[.string (bs nm)] _ _ (by simp)
     ·intro u hu;simp at hu;subst hu;rfl
     ·unfold maxLen;omega
     ·omega
     ·simp;omega
     intro v' w3 hown2 hgrow _;have HB2:=Hd ((HR2.out.trans (zaA w2 _)).trans' (zaO (hown.alloc _) hgrow (by simp;omega)));rw[<- zbF] at hown2;have HO:=Hd hown2;clear hown2 hgrow hown;go_wp2_with fail;go_roundw
     case rel=>exact ⟨k+1,by omega,by go_num,by rw[HF.out];simpa using HO.out,HB2.out⟩
     case measure=>simp [intOf];omega
    ·have HNAME:=HNF;clear HNF HNS;go_wp2_with fail;refine (HNAME.out _).mono ?_;rintro e w2 ⟨rfl,hk2⟩;generalize zaT true (qf,qg,qp,qs)=nm at *;have hown:=zaX (HW.out.alloc (.cells #[.string (bs qf),.string (bs qg),.string (bs qp),.string (bs qs)] 77)) hk2;have HR2:=Hd ((HR.out.trans (zaA wr _)).trans hk2);have hsz2:w1.heap.size<=w2.heap.size:=HR2.out.size;clear hk2;go_wp2_with (at_builtin;refine wpList_append_own _ rfl _ _ 29 rfl w1.heap.size 9 i0 (.string ⟨#[]⟩) 1 16 Tryz.underlying29 hi hz0 hz1 hz2 rfl (by decide) _ _ _ rfl (hown.alloc _) ⟨w2.heap.size,0,none⟩ 1 1 [.string (bs nm)] rfl rfl ?_ ?_ ?_ ?_ ?_ ?_)
     ·exact za5 _ #[.string (bs nm)] _ _ (by simp)
     ·intro u hu;simp at hu;subst hu;rfl
     ·unfold maxLen;omega
     ·omega
     ·simp;omega
     intro v' w3 hown2 hgrow _;have HB2:=Hd ((HR2.out.trans (zaA w2 _)).trans' (zaO (hown.alloc _) hgrow (by simp;omega)));rw[<- zbF] at hown2;have HO:=Hd hown2;clear hown2 hgrow hown;go_wp2_with fail;go_roundw
     case rel=>exact ⟨k+1,by omega,by go_num,by rw[HF.out];simpa using HO.out,HB2.out⟩
     case measure=>simp [intOf];omega
   ·have HW:=Hd (Strs.own hown);have HR:=Hd (HK1.out.trans hkr);rw[List.take_of_length_le (by rw[HLEN.out];omega)] at HW;have hnl:(xs.map (zaT full)).length<=900:=(by rw[List.length_map,HLEN.out];exact hml);have hjl:=zcH 10004 _ (zdE full xs HXQ.out);have hjd:=zcH 10004 (xs.map (zaT full)).dropLast (fun x hx=>zdE full xs HXQ.out x ((List.dropLast_sublist _).subset hx));have hll:((xs.map (zaT full)).getLastD []).length<=10004:=by
     cases hq:(xs.map (zaT full)).getLast? with
     | none=>rw[List.getLastD_eq_getLast?,hq];simp
     | some y=>rw[List.getLastD_eq_getLast?,hq];exact zdE full xs HXQ.out y (List.mem_of_getLast? hq)
    have hdl:(xs.map (zaT full)).dropLast.length<=900:=(by simp at hnl ⊢;omega);clear hown hkr;have hj1:(Lib.join (xs.map (zaT full)) ziV).length<=10000000:=by
     have:=Nat.mul_le_mul_right 10006 hnl;omega
    have hj2:(Lib.join (xs.map (zaT full)).dropLast ziV).length<=10000000:=by
     have:=Nat.mul_le_mul_right 10006 hdl;omega
    clear hjl hjd hdl;go_wp2_with fail;refine (HA.out _).mono ?_;rintro e w2 ⟨rfl,hk2⟩;have HR2:=Hd (HR.out.trans hk2);have HW2:=Hd (HW.out.kept hk2);clear hk2;go_wp2_with fail;refine (HO.out _).mono ?_;rintro e w3 ⟨rfl,hk3⟩;have HR3:=Hd (HR2.out.trans hk3);have HW3:=Hd (HW2.out.kept hk3);clear hk3;go_wp2_with fail;rw[<- HSP.out];refine (zdW _ _ _ _ HW3.out (by omega) (by omega)).mono ?_;rintro e w4 ⟨rfl,hk4⟩;have HR4:=Hd (HR3.out.trans hk4);clear hk4;generalize Lib.join (xs.map (zaT full)) ziV=jj at *;go_wp2_with fail;go_ret;exact ⟨zc7 (by rw[HE.out];simp),HR4.out⟩
theorem zx0 (v:Value) (ps:List P4) (l:Bs) (most:Int) (full:Bool) (w:World) (hv:Perss w v ps) (hN:ps.length<=900) (hq:∀ q∈ps,zd7 q<=10000) (L:Bs) (hL:((zeJ l).isSome=true/\L=l)\/((zeJ l).isSome=false/\L=lEn)) (hm:¬ (1<=most/\most<ps.length)) (hmr : -9223372036854775808<=most/\most<=9223372036854775807) :
  Calls Tryz.prog 119 #[v,.string (bs l),.int .i64 most,.bool full] w fun e w'=>e=.returned (.string (bs (zm6 L (ps.map (zaT full)))))/\Kept w w':=by
 obtain ⟨i0,hi,hz0,hz1,hz2⟩:=info_parts Tryz.infoStr;have HV:=Hd hv;have HQ:=Hd hq;clear hq;obtain ⟨a,c,rfl,hc,h3⟩:=hv;clear h3;obtain ⟨m,hm0⟩:∃ m:Nat,m=ps.length:=⟨_,rfl⟩;obtain ⟨xs,hxs⟩:∃ xs,xs=ps:=⟨_,rfl⟩;have HX:Hid (Perss w (.slice a m c) xs):=(by show Perss _ _ _;rw[hxs,hm0];exact HV.out);have HXQ:Hid (∀ q∈xs,zd7 q<=10000):=(by intro q h;rw[hxs] at h;exact HQ.out q h);have HE:Hid (ps=xs):=hxs.symm;have HLEN:Hid (xs.length=m):=(by show _=_;rw[hxs,hm0]);have hml:m<=900:=(by omega);rw[<- hm0] at hm hc;rw[<- hm0];clear hxs;have HM0:=Hd hm0;clear hm0 hN;have HLS:=Hd (zxK L);rcases hL with ⟨hk,hLe⟩|⟨hk,hLe⟩
 case' inl=>obtain ⟨an0,HT⟩:∃ an0,Hid (∀ w,Calls Tryz.prog 162 #[.string (bs l),.string (bs [97,110,100]),.int .i64 1] w fun e w'=>e=.returned (.tuple #[.string (bs an0),.bool true])/\Kept w w'):=⟨_,fun w=>by have:=zgL l 1 w;rw[hk] at this;exact this⟩
 case' inr=>obtain ⟨an0,HT⟩:∃ an0,Hid (∀ w,Calls Tryz.prog 162 #[.string (bs l),.string (bs [97,110,100]),.int .i64 1] w fun e w'=>e=.returned (.tuple #[.string (bs an0),.bool false])/\Kept w w'):=⟨_,fun w=>by have:=zgL l 1 w;rw[hk] at this;exact this⟩
 all_goals
  clear hk;subst hLe;by_cases hm1:1<=most
  ·have hm1':decide ((1:Int)<=most)=true:=(by simpa using hm1);have hm2':decide (most<(m:Int))=false:=(by simp;omega);have hm3:¬ most<(m:Int):=(by omega);clear hm;go_enter Tryz.func119,Tryz.ntmps119;go_wp2_with fail;refine (HT.out _).mono ?_;rintro e w1 ⟨rfl,hk1⟩;have HK1:=Hd hk1;clear hk1;go_wp2_with fail
   (try simp only[zd4])
   go_loopw [12,40] (fun v i wr=>∃ (k:Nat),k<=m/\i=.int .i64 k/\wr.ownsRow w1.heap.size 9 1 v ((xs.take k).map (zaT full)).length (zaG ((xs.take k).map (zaT full)))/\Kept w1 wr) (fun _ i _=>m - (intOf i).toNat)
   case atStart=>exact ⟨0,Nat.zero_le _,rfl,World.ownsRow_nil _ _ _ _,Kept.refl _⟩
   case round =>
    obtain ⟨k,hkl,rfl,hown,hkr⟩:=hrel;by_cases hlt:k<m
    ·obtain ⟨q,hx⟩:∃ x,xs[k]? = some x:=⟨_,List.getElem?_eq_getElem (by rw[HLEN.out];exact hlt)⟩;obtain ⟨a',c',hv',hc',h3⟩:=(HX.out.kept HK1.out).kept hkr;obtain ⟨rfl,hdead,rfl⟩:=Value.slice.inj hv';clear hdead;obtain ⟨g,o,rfl,hg,hcc⟩:=h3 (by rw[HLEN.out];omega);obtain ⟨c0,c1,c2,c3⟩:=hcc k q hx;have hqs:=HXQ.out q (List.mem_of_getElem? hx);have HF:=Hd (zn5 (zaT full) xs k q hx);have hfl:((xs.take k).map (zaT full)).length<=k:=(by simp;omega);generalize (xs.take k).map (zaT full)=ws at *;have hsz:w1.heap.size<=wr.heap.size:=hkr.size;have HR:=Hd hkr;have HW:=Hd hown;have HNF:=Hd (fun w=>zlD w q hqs);have HNS:=Hd (fun w=>ziY w q hqs);clear hkr hx hown hcc h3 hv' hc';obtain ⟨qf,qg,qp,qs⟩:=q;simp only at c0 c1 c2 c3;cases full
     ·have HNAME:=HNS;clear HNF HNS;go_wp2_with fail;refine (HNAME.out _).mono ?_;rintro e w2 ⟨rfl,hk2⟩;generalize zaT false (qf,qg,qp,qs)=nm at *;have hown:=zaX (HW.out.alloc (.cells #[.string (bs qf),.string (bs qg),.string (bs qp),.string (bs qs)] 77)) hk2;have HR2:=Hd ((HR.out.trans (zaA wr _)).trans hk2);have hsz2:w1.heap.size<=w2.heap.size:=HR2.out.size;clear hk2;go_wp2_with (at_builtin;refine wpList_append_own _ rfl _ _ 29 rfl w1.heap.size 9 i0 (.string ⟨#[]⟩) 1 16 Tryz.underlying29 hi hz0 hz1 hz2 rfl (by decide) _ _ _ rfl (hown.alloc _) ⟨w2.heap.size,0,none⟩ 1 1 [.string (bs nm)] rfl rfl ?_ ?_ ?_ ?_ ?_ ?_)
      ·exact za5 _ #[.string (bs nm)] _ _ (by simp)
      ·intro u hu;simp at hu;subst hu;rfl
      ·unfold maxLen;omega
      ·omega
      ·simp;omega
      intro v' w3 hown2 hgrow _;have HB2:=Hd ((HR2.out.trans (zaA w2 _)).trans' (zaO (hown.alloc _) hgrow (by simp;omega)));rw[<- zbF] at hown2;have HO:=Hd hown2;clear hown2 hgrow hown;go_wp2_with fail;go_roundw
      case rel=>exact ⟨k+1,by omega,by go_num,by rw[HF.out];simpa using HO.out,HB2.out⟩
      case measure=>simp [intOf];omega
     ·have HNAME:=HNF;clear HNF HNS;go_wp2_with fail;refine (HNAME.out _).mono ?_;rintro e w2 ⟨rfl,hk2⟩;generalize zaT true (qf,qg,qp,qs)=nm at *;have hown:=zaX (HW.out.alloc (.cells #[.string (bs qf),.string (bs qg),.string (bs qp),.string (bs qs)] 77)) hk2;have HR2:=Hd ((HR.out.trans (zaA wr _)).trans hk2);have hsz2:w1.heap.size<=w2.heap.size:=HR2.out.size;clear hk2;go_wp2_with (at_builtin;refine wpList_append_own _ rfl _ _ 29 rfl w1.heap.size 9 i0 (.string ⟨#[]⟩) 1 16 Tryz.underlying29 hi hz0 hz1 hz2 rfl (by decide) _ _ _ rfl (hown.alloc _) ⟨w2.heap.size,0,none⟩ 1 1 [.string (bs nm)] rfl rfl ?_ ?_ ?_ ?_ ?_ ?_)
      ·exact za5 _ #[.string (bs nm)] _ _ (by simp)
      ·intro u hu;simp at hu;subst hu;rfl
      ·unfold maxLen;omega
      ·omega
      ·simp;omega
      intro v' w3 hown2 hgrow _;have HB2:=Hd ((HR2.out.trans (zaA w2 _)).trans' (zaO (hown.alloc _) hgrow (by simp;omega)));rw[<- zbF] at hown2;have HO:=Hd hown2;clear hown2 hgrow hown;go_wp2_with fail;go_roundw
      case rel=>exact ⟨k+1,by omega,by go_num,by rw[HF.out];simpa using HO.out,HB2.out⟩
      case measure=>simp [intOf];omega
    ·have HW:=Hd (Strs.own hown);have HR:=Hd (HK1.out.trans hkr);rw[List.take_of_length_le (by rw[HLEN.out];omega)] at HW;have hnl:(xs.map (zaT full)).length<=900:=(by rw[List.length_map,HLEN.out];exact hml);have hjl:=zcH 10004 _ (zdE full xs HXQ.out);have hjd:=zcH 10004 (xs.map (zaT full)).dropLast (fun x hx=>zdE full xs HXQ.out x ((List.dropLast_sublist _).subset hx));have hll:((xs.map (zaT full)).getLastD []).length<=10004:=by
      cases hq:(xs.map (zaT full)).getLast? with
      | none=>rw[List.getLastD_eq_getLast?,hq];simp
      | some y=>rw[List.getLastD_eq_getLast?,hq];exact zdE full xs HXQ.out y (List.mem_of_getLast? hq)
     have hdl:(xs.map (zaT full)).dropLast.length<=900:=(by simp at hnl ⊢;omega);clear hown hkr;have hj1:(Lib.join (xs.map (zaT full)) ziV).length<=10000000:=by
      have:=Nat.mul_le_mul_right 10006 hnl;omega
     have hj2:(Lib.join (xs.map (zaT full)).dropLast ziV).length<=10000000:=by
      have:=Nat.mul_le_mul_right 10006 hdl;omega
     clear hjl hjd hdl;go_wp2_with fail;refine (HLS.out _ _ _ HW.out (by omega) hj1 hj2 (by omega)).mono ?_;rintro e w2 ⟨rfl,hk2⟩;have HR2:=Hd (HR.out.trans hk2);clear hk2;go_wp2_with fail;go_ret;exact ⟨zc7 (by rw[HE.out]),HR2.out⟩
  ·have hm1':decide ((1:Int)<=most)=false:=(by simpa using hm1);clear hm;go_enter Tryz.func119,Tryz.ntmps119;go_wp2_with fail;refine (HT.out _).mono ?_;rintro e w1 ⟨rfl,hk1⟩;have HK1:=Hd hk1;clear hk1;go_wp2_with fail
   (try simp only[zd4])
   go_loopw [12,40] (fun v i wr=>∃ (k:Nat),k<=m/\i=.int .i64 k/\wr.ownsRow w1.heap.size 9 1 v ((xs.take k).map (zaT full)).length (zaG ((xs.take k).map (zaT full)))/\Kept w1 wr) (fun _ i _=>m - (intOf i).toNat)
   case atStart=>exact ⟨0,Nat.zero_le _,rfl,World.ownsRow_nil _ _ _ _,Kept.refl _⟩
   case round =>
    obtain ⟨k,hkl,rfl,hown,hkr⟩:=hrel;by_cases hlt:k<m
    ·obtain ⟨q,hx⟩:∃ x,xs[k]? = some x:=⟨_,List.getElem?_eq_getElem (by rw[HLEN.out];exact hlt)⟩;obtain ⟨a',c',hv',hc',h3⟩:=(HX.out.kept HK1.out).kept hkr;obtain ⟨rfl,hdead,rfl⟩:=Value.slice.inj hv';clear hdead;obtain ⟨g,o,rfl,hg,hcc⟩:=h3 (by rw[HLEN.out];omega);obtain ⟨c0,c1,c2,c3⟩:=hcc k q hx;have hqs:=HXQ.out q (List.mem_of_getElem? hx);have HF:=Hd (zn5 (zaT full) xs k q hx);have hfl:((xs.take k).map (zaT full)).length<=k:=(by simp;omega);generalize (xs.take k).map (zaT full)=ws at *;have hsz:w1.heap.size<=wr.heap.size:=hkr.size;have HR:=Hd hkr;have HW:=Hd hown;have HNF:=Hd (fun w=>zlD w q hqs);have HNS:=Hd (fun w=>ziY w q hqs);clear hkr hx hown hcc h3 hv' hc';obtain ⟨qf,qg,qp,qs⟩:=q;simp only at c0 c1 c2 c3;cases full
     ·have HNAME:=HNS;clear HNF HNS;go_wp2_with fail;refine (HNAME.out _).mono ?_;rintro e w2 ⟨rfl,hk2⟩;generalize zaT false (qf,qg,qp,qs)=nm at *;have hown:=zaX (HW.out.alloc (.cells #[.string (bs qf),.string (bs qg),.string (bs qp),.string (bs qs)] 77)) hk2;have HR2:=Hd ((HR.out.trans (zaA wr _)).trans hk2);have hsz2:w1.heap.size<=w2.heap.size:=HR2.out.size;clear hk2;go_wp2_with (at_builtin;refine wpList_append_own _ rfl _ _ 29 rfl w1.heap.size 9 i0 (.string ⟨#[]⟩) 1 16 Tryz.underlying29 hi hz0 hz1 hz2 rfl (by decide) _ _ _ rfl (hown.alloc _) ⟨w2.heap.size,0,none⟩ 1 1 [.string (bs nm)] rfl rfl ?_ ?_ ?_ ?_ ?_ ?_)
      ·exact za5 _ #[.string (bs nm)] _ _ (by simp)
      ·intro u hu;simp at hu;subst hu;rfl
      ·unfold maxLen;omega
      ·omega
      ·simp;omega
      intro v' w3 hown2 hgrow _;have HB2:=Hd ((HR2.out.trans (zaA w2 _)).trans' (zaO (hown.alloc _) hgrow (by simp;omega)));rw[<- zbF] at hown2;have HO:=Hd hown2;clear hown2 hgrow hown;go_wp2_with fail;go_roundw
      case rel=>exact ⟨k+1,by omega,by go_num,by rw[HF.out];simpa using HO.out,HB2.out⟩
      case measure=>simp [intOf];omega
     ·have HNAME:=HNF;clear HNF HNS;go_wp2_with fail;refine (HNAME.out _).mono ?_;rintro e w2 ⟨rfl,hk2⟩;generalize zaT true (qf,qg,qp,qs)=nm at *;have hown:=zaX (HW.out.alloc (.cells #[.string (bs qf),.string (bs qg),.string (bs qp),.string (bs qs)] 77)) hk2;have HR2:=Hd ((HR.out.trans (zaA wr _)).trans hk2);have hsz2:w1.heap.size<=w2.heap.size:=HR2.out.size;clear hk2;go_wp2_with (at_builtin;refine wpList_append_own _ rfl _ _ 29 rfl w1.heap.size 9 i0 (.string ⟨#[]⟩) 1 16 Tryz.underlying29 hi hz0 hz1 hz2 rfl (by decide) _ _ _ rfl (hown.alloc _) ⟨w2.heap.size,0,none⟩ 1 1 [.string (bs nm)] rfl rfl ?_ ?_ ?_ ?_ ?_ ?_)
      ·exact za5 _ #[.string (bs nm)] _ _ (by simp)
      ·intro u hu;simp at hu;subst hu;rfl
      ·unfold maxLen;omega
      ·omega
      ·simp;omega
      intro v' w3 hown2 hgrow _;have HB2:=Hd ((HR2.out.trans (zaA w2 _)).trans' (zaO (hown.alloc _) hgrow (by simp;omega)));rw[<- zbF] at hown2;have HO:=Hd hown2;clear hown2 hgrow hown;go_wp2_with fail;go_roundw
      case rel=>exact ⟨k+1,by omega,by go_num,by rw[HF.out];simpa using HO.out,HB2.out⟩
      case measure=>simp [intOf];omega
    ·have HW:=Hd (Strs.own hown);have HR:=Hd (HK1.out.trans hkr);rw[List.take_of_length_le (by rw[HLEN.out];omega)] at HW;have hnl:(xs.map (zaT full)).length<=900:=(by rw[List.length_map,HLEN.out];exact hml);have hjl:=zcH 10004 _ (zdE full xs HXQ.out);have hjd:=zcH 10004 (xs.map (zaT full)).dropLast (fun x hx=>zdE full xs HXQ.out x ((List.dropLast_sublist _).subset hx));have hll:((xs.map (zaT full)).getLastD []).length<=10004:=by
      cases hq:(xs.map (zaT full)).getLast? with
      | none=>rw[List.getLastD_eq_getLast?,hq];simp
      | some y=>rw[List.getLastD_eq_getLast?,hq];exact zdE full xs HXQ.out y (List.mem_of_getLast? hq)
     have hdl:(xs.map (zaT full)).dropLast.length<=900:=(by simp at hnl ⊢;omega);clear hown hkr;have hj1:(Lib.join (xs.map (zaT full)) ziV).length<=10000000:=by
      have:=Nat.mul_le_mul_right 10006 hnl;omega
     have hj2:(Lib.join (xs.map (zaT full)).dropLast ziV).length<=10000000:=by
      have:=Nat.mul_le_mul_right 10006 hdl;omega
     clear hjl hjd hdl;go_wp2_with fail;refine (HLS.out _ _ _ HW.out (by omega) hj1 hj2 (by omega)).mono ?_;rintro e w2 ⟨rfl,hk2⟩;have HR2:=Hd (HR.out.trans hk2);clear hk2;go_wp2_with fail;go_ret;exact ⟨zc7 (by rw[HE.out]),HR2.out⟩
theorem zhX (v:Value) (ps:List P4) (l:Bs) (most:Int) (full:Bool) (w:World) (hv:Perss w v ps) (hN:ps.length<=900) (hq:∀ q∈ps,zd7 q<=10000) (hmr : -9223372036854775808<=most/\most<=9223372036854775807) :
  Calls Tryz.prog 119 #[v,.string (bs l),.int .i64 most,.bool full] w fun e w'=>e=.returned (.string (bs (zfX ps l most full)))/\Kept w w':=by
 unfold zfX zm8;cases hk:(zeJ l).isSome
 ·by_cases hm:1<=most/\most<ps.length
  ·rw[if_pos hm];exact zxZ v ps l most full w hv hN hq lEn (.inr ⟨hk,rfl⟩) hm.1 hm.2 hmr
  ·rw[if_neg hm];exact zx0 v ps l most full w hv hN hq lEn (.inr ⟨hk,rfl⟩) hm hmr
 ·by_cases hm:1<=most/\most<ps.length
  ·rw[if_pos hm];exact zxZ v ps l most full w hv hN hq l (.inl ⟨hk,rfl⟩) hm.1 hm.2 hmr
  ·rw[if_neg hm];exact zx0 v ps l most full w hv hN hq l (.inl ⟨hk,rfl⟩) hm hmr
end Go.Proofs.YtmcoomlkbgiboaaGreatDoor
