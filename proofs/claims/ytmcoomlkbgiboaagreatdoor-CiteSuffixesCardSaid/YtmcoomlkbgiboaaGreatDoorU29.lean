/- Words between single spaces: strings.Fields finds the pieces. Conditions: the pieces are not empty, and bear no other white space. -/
import Derived.Test.YtmcoomlkbgiboaaGreatDoorU01
import Derived.Test.YtmcoomlkbgiboaaGreatDoorU25
import Derived.Test.YtmcoomlkbgiboaaGreatDoorU27
import Derived.Test.YtmcoomlkbgiboaaGreatDoorU28
import Derived.Test.YtmcoomlkbgiboaaGreatDoorU19
import Derived.Test.YtmcoomlkbgiboaaGreatDoorU21
import Derived.Test.YtmcoomlkbgiboaaGreatDoorU09
import Derived.Test.YtmcoomlkbgiboaaGreatDoorU02
import Derived.Test.YtmcoomlkbgiboaaGreatDoorU22
import Derived.Test.YtmcoomlkbgiboaaGreatDoorU26
import Derived.Test.YtmcoomlkbgiboaaGreatDoorU17
import Derived.Test.YtmcoomlkbgiboaaGreatDoorU24
import Derived.Test.YtmcoomlkbgiboaaGreatDoorU12
import Derived.Lib.Fields
import Derived.BigQuiet
set_option linter.all false
set_option maxRecDepth 100000
set_option maxHeartbeats 1600000
namespace Go.Proofs.YtmcoomlkbgiboaaGreatDoor
open Go.RowKit
theorem zl1:∀ (l cur:Bs),(∀ b∈l,Lib.isSp b=(b == 32))->Lib.fieldsGo cur l=((l.foldl (zb7 32) ([],cur)).1 ++ [(l.foldl (zb7 32) ([],cur)).2]).filter (fun x=>!x.isEmpty)
 | [],cur,_=>by
  show (if cur.isEmpty then [] else [cur])=[cur].filter _;cases cur <;> rfl
 | b :: l,cur,h=>by
  have hb:=h b (List.mem_cons_self ..);have ih:=fun c=>zl1 l c (fun x hx=>h x (List.mem_cons_of_mem _ hx));show (if Lib.isSp b then (if cur.isEmpty then Lib.fieldsGo [] l else cur :: Lib.fieldsGo [] l) else Lib.fieldsGo (cur ++ [b]) l)=_;rw[hb,List.foldl_cons];by_cases q:b=32
  ·have e:zb7 32 (([]:List Bs),cur) b=([cur],[]):=(by subst q;rfl);rw[if_pos (by simpa using q),e,zeW];show _=(cur :: ((l.foldl (zb7 32) ([],[])).1 ++ [(l.foldl (zb7 32) ([],[])).2])).filter _;rw[List.filter_cons,ih []];cases cur <;> rfl
  ·have e:zb7 32 (([]:List Bs),cur) b=([],cur ++ [b]):=(by unfold zb7;simp [q]);rw[if_neg (by simpa using q),e,ih]
theorem zrG (l:Bs) (hb:∀ b∈l,Lib.isSp b=(b == 32)) (hn:∀ x∈za4 32 l,x≠[]):Lib.fields l=za4 32 l:=by
 unfold Lib.fields;rw[zl1 l [] hb];show (za4 32 l).filter _=_;rw[List.filter_eq_self];intro x hx;have:=hn x hx;cases x with
 | nil=>exact absurd rfl this
 | cons a x=>rfl
theorem zjF:∀ (l cur:Bs) (b:UInt8),b∈cur ++ l->b=32\/∃ x∈(l.foldl (zb7 32) ([],cur)).1 ++ [(l.foldl (zb7 32) ([],cur)).2],b∈x
 | [],cur,b,h=>.inr ⟨cur,by simp,by simpa using h⟩
 | c :: l,cur,b,h=>by
  rw[List.foldl_cons];by_cases q:c=32
  ·have e:zb7 32 (([]:List Bs),cur) c=([cur],[]):=(by subst q;rfl);rw[e,zeW];rcases List.mem_append.1 h with r|r
   ·exact .inr ⟨cur,by simp,r⟩
   ·rcases List.mem_cons.1 r with r|r
    ·exact .inl (r.trans q)
    ·rcases zjF l [] b (by simpa using r) with k|⟨x,k1,k2⟩
     ·exact .inl k
     ·refine .inr ⟨x,?_,k2⟩;rw[List.mem_append] at k1 ⊢;rcases k1 with k1|k1
      ·exact .inl (List.mem_append.2 (.inr k1))
      ·exact .inr k1
  ·have e:zb7 32 (([]:List Bs),cur) c=([],cur ++ [c]):=(by unfold zb7;simp [q]);rw[e];exact zjF l (cur ++ [c]) b (by simpa using h)
theorem zs0 (l:Bs) (b:UInt8) (h:b∈l):b=32\/∃ x∈za4 32 l,b∈x:=zjF l [] b (by simpa using h)
def kYr:Bs:=[121,101,97,114]
def zzR (s:SrcT):KeyT:=⟨zf7 s,zdW ((za5 s.fields kYr).getD []),(za5 s.fields zhC).getD [],s.key⟩
def zjG (s:SrcT):SorT:=⟨zzR s,s⟩
def cfO (c:ColT) (ws:List Bs) (a b:SrcT):Int:=cfW c ws (zzR a) (zzR b)
def zC0 (c:ColT) (ws:List Bs) (l:List SrcT):List SrcT:=zkD (cfO c ws) l
theorem zBW (c:ColT) (ws:List Bs) (l:List SrcT):zw2 (fun a b=>cfW c ws a.k b.k) (l.map zjG)=(zC0 c ws l).map zjG:=by
 unfold zw2 zC0;rw[zoZ (fun x y=>(zDx SorT.k (zy6 c ws)).anti x y)];exact (zy7 (fun a b:SorT=>cfW c ws a.k b.k) zjG l).symm
theorem zBX (c:ColT) (ws:List Bs) (l:List SrcT):(zC0 c ws l).length=l.length:=zq2 _
theorem zzS (c:ColT) (ws:List Bs) (l:List SrcT):(zC0 c ws l).Perm l:=znQ _
def FitL (s:SrcT):Prop:=s.author.length<=5/\s.editor.length<=5/\s.fields.length<=12/\s.key.length+s.type.length<=200/\(∀ f∈s.fields,f.1.length+f.2.length<=200)/\∀ q∈s.author ++ s.editor,q.1.length+q.2.1.length+q.2.2.1.length+q.2.2.2.length<=200
def FewY (y:StyT):Prop:=y.entries.length<=12/\y.cite.length+y.bare.length+y.between.length+y.begin_.length+y.end_.length+y.sort.length+y.name.length<=400/\(∀ p∈y.entries,p.1.length+p.2.length<=300)/\(-9223372036854775808<=y.most/\y.most<=9223372036854775807)
theorem FewY.small {y:StyT} (h:FewY y):SmallY y:=by
 obtain ⟨h1,h2,h3,_⟩:=h;refine ⟨by omega,by omega,by omega,by omega,by omega,by omega,by omega,by omega,fun p hp=>?_⟩;have:=h3 p hp;constructor <;> omega
theorem zrH (s:SrcT):∀ q∈zkE s,q∈s.author ++ s.editor:=fun q h=>by
 unfold zkE at h
 split at h
 ·exact List.mem_append_right _ h
 ·exact List.mem_append_left _ h
theorem zrI {s:SrcT} (h:FitL s):(zkE s).length<=5:=by
 unfold zkE
 split
 ·exact h.2.1
 ·exact h.1
theorem zBY (a b c d:Bs):(zDy a b c d false).length<=a.length+b.length+c.length+d.length+1000:=by
 have h1:=zeB [c,a];have h2:zmS [c,a]=c.length+1+(a.length+1+0):=rfl;have h3:ziP b false=b:=rfl;unfold zDy;rw[h3,List.length_append,List.length_append];have h4:(if b=[] then ([]:Bs) else [44,32] ++ b).length<=b.length+2:=(by split <;> simp);have h5:(if d=[] then ([]:Bs) else [44,32] ++ d).length<=d.length+2:=(by split <;> simp);omega
theorem zrJ {s:SrcT} (h:FitL s):(zf7 s).length<=9000:=by
 have h1:=zcJ 1200 ((zkE s).map zm3) (fun x hx=>by
  obtain ⟨q,hq,rfl⟩:=List.mem_map.1 hx;have h2:=h.2.2.2.2.2 q (zrH s q hq);have h3:=zBY q.1 q.2.1 q.2.2.1 q.2.2.2;unfold zm3;omega)
 have h4:=zrI h;rw[List.length_map] at h1;have h5:(zkE s).length * (1200+2)<=5 * (1200+2):=Nat.mul_le_mul_right _ h4;have h6:zf7 s=Lib.join ((zkE s).map zm3) zdO:=rfl;rw[h6];omega
theorem zo7 {ps:List Pr} {n:Nat} (h:∀ p∈ps,p.1.length+p.2.length<=n) (k:Bs):((za5 ps k).getD []).length<=n:=by
 unfold za5;cases hx:ps.find? fun q=>q.1 == k with
 | none=>simp
 | some p =>
  have:=h p (List.mem_of_find?_eq_some hx);simp only[Option.map_some,Option.getD_some];omega
theorem zzT {s:SrcT} (h:FitL s):FitKy (zzR s):=by
 have h1:=zrJ h;have h2:=zo7 h.2.2.2.2.1 zhC;have h3:=h.2.2.2.1;have h4:=zfT ((za5 s.fields kYr).getD []);exact ⟨by show (zf7 s).length<=_;omega,by show ((za5 s.fields zhC).getD []).length<=_;omega,by show s.key.length<=_;omega,by show _<=zdW _;omega,by show zdW _<=_;omega⟩
theorem zv2 (lang:Bs):SmallC (zw3 lang):=by
 have h1:=zo6 (lang == wEs) 26;have hr:rkL lang=zCX\/rkL lang=zCY\/rkL lang=zCZ\/rkL lang=[]:=by
  unfold rkL
  split
  ·exact .inl rfl
  ·split
   ·exact .inr (.inl rfl)
   ·split
    ·exact .inr (.inr (.inl rfl))
    ·exact .inr (.inr (.inr rfl))
 refine ⟨?_,?_,?_,?_,?_⟩
 ·show (rkL lang).length<=_;rcases hr with e|e|e|e <;> rw[e] <;> decide
 ·show (zl0 10 ++ zpS (lang == wEs) 26).length<=_;rw[List.length_append,zkU];omega
 ·show ([]:Bs).length<=_;simp
 ·intro s hs;rcases List.mem_append.1 (show s∈zl0 10 ++ zpS (lang == wEs) 26 from hs) with h|h
  ·unfold zl0 at h;obtain ⟨k,-,rfl⟩:=List.mem_map.1 h;simp
  ·unfold zpS at h;obtain ⟨k,-,h⟩:=List.mem_flatMap.1 h;unfold zCW at h;rcases List.mem_cons.1 h with rfl|h
   ·simp
   ·split at h
    ·rw[List.mem_singleton.1 h];decide
    ·cases h
 ·show ∀ p∈rkL lang,_;rcases hr with e|e|e|e <;> rw[e] <;> decide
def wsY (y:StyT):List Bs:=Lib.fields y.sort
theorem zuB {x:Bs} (h:zoR x=true):x≠[]/\∀ b∈x,b.toNat<128/\Lib.isSp b=false:=by
 rcases zoS h with rfl|rfl|rfl|rfl
 all_goals exact ⟨by decide,by decide +kernel⟩
theorem znU {l:Bs} (h:zm2 l=0):l=[]\/(za4 32 l).all zoR=true:=by
 unfold zm2 at h
 split at h
 ·exact .inl ‹_›
 ·right
  split at h
  ·cases h
  ·rename_i q;simpa using q
theorem znV {l:Bs} (h:zm2 l=0):∀ b∈l,b.toNat<128/\Lib.isSp b=(b == 32):=by
 intro b hb;rcases znU h with rfl|q
 ·cases hb
 ·rcases zs0 l b hb with rfl|⟨x,hx,hbx⟩
  ·decide +kernel
  ·have h1:=(zuB (List.all_eq_true.1 q x hx)).2 b hbx;refine ⟨h1.1,?_⟩;rw[h1.2];symm;rw[beq_eq_false_iff_ne];intro e;subst e;exact absurd h1.2 (by decide +kernel)
theorem zrK {y:StyT} (h:zdZ y=0):zm2 y.sort=0:=by
 unfold zdZ at h
 split at h
 ·cases h
 ·split at h
  ·cases h
  ·split at h
   ·rename_i q;exact absurd h q
   ·rename_i q;simpa using q
theorem zzU {y:StyT} (h:zdZ y=0) (h0:y.sort≠[]):wsY y=za4 32 y.sort:=by
 have h1:=zrK h;rcases znU h1 with q|q
 ·exact absurd q h0
 ·exact zrG y.sort (fun b hb=>(znV h1 b hb).2) (fun x hx=>(zuB (List.all_eq_true.1 q x hx)).1)
theorem zDK {y:StyT} (h0:y.sort=[]):wsY y=[]:=by unfold wsY;rw[h0];rfl
theorem zDL {y:StyT} (h:zdZ y=0):(wsY y).length<=y.sort.length+1:=by
 by_cases h0:y.sort=[]
 ·rw[zDK h0];simp
 ·rw[zzU h h0,zc5];have:=List.count_le_length (a:=(32:UInt8)) (l:=y.sort);omega
def zC1 (y:StyT) (lang:Bs) (l:List SrcT):Int × List SrcT:=if zdZ y=0 then (0,zC0 (zw3 lang) (wsY y) l) else (zdZ y,[])
theorem zBZ {α:Type} {l:List α} {k:Nat} {y x:α} (h:l[k]? = some y) (h1:x ∉ l.take k) (h2:y≠x):x ∉ l.take (k+1):=by
 rw[List.take_succ,h];intro q;rcases List.mem_append.1 q with q|q
 ·exact h1 q
 ·simp at q;exact h2 q.symm
theorem zv3 (v:Value) (ks:List Bs) (x:Bs) (w:World) (hv:Strs w v ks) (hl:ks.length<=1000000) :
  Calls Tryz.prog 33 #[v,.string (bs x)] w fun e w'=>e=.returned (.bool (ks.contains x))/\Kept w w':=by
 have HV:=Hd hv;obtain ⟨a,c,rfl,hc⟩:=hv.shape;have HT:Hid (x∈ks->ks.contains x=true):=fun h=>List.contains_iff_mem.2 h;have HN:Hid (x ∉ ks->ks.contains x=false):=fun h=>by
  rw[<- Bool.not_eq_true];exact fun q=>h (List.contains_iff_mem.1 q)
 generalize ks.contains x=R at *;clear hv;go_enter Tryz.func33,Tryz.ntmps33;go_wp2_with fail;go_loopw [5] (fun i wr=>∃ k:Nat,k<=ks.length/\i=.int .i64 k/\Hid (x ∉ ks.take k)/\Hid (Kept w wr)) (fun i _=>ks.length - (intOf i).toNat)
 case atStart=>exact ⟨0,Nat.zero_le _,rfl,(by show x ∉ ks.take 0;simp),Kept.refl _⟩
 case round =>
  obtain ⟨k,hk,rfl,HX,HKR⟩:=hrel;by_cases hlt:k<ks.length
  ·obtain ⟨z,hx⟩:∃ z,ks[k]? = some z:=⟨_,List.getElem?_eq_getElem hlt⟩;obtain ⟨g,o,rfl,hg,d0,-,-⟩:=(HV.out.kept HKR.out).cell_of k z hx;by_cases hz:z=x
   ·obtain rfl:=HT.out (by rw[<- hz];exact List.mem_of_getElem? hx);subst hz;clear hx HX HT HN;go_wp2_with fail;go_ret;exact ⟨rfl,HKR.out⟩
   ·have HX2:=Hd (zBZ hx HX.out hz);have hzb:(z == x)=false:=(by rw[beq_eq_false_iff_ne];exact hz);clear hx HX;go_wp2_with fail;go_roundw
    case rel=>exact ⟨k+1,by omega,by go_num,HX2.out,HKR.out⟩
    case measure=>simp [intOf];omega
  ·obtain rfl:k=ks.length:=(by omega);obtain rfl:=HN.out (by have:=HX.out;rwa [List.take_length] at this);clear HX HT HN;go_wp2_with fail;go_ret;exact ⟨rfl,HKR.out⟩
theorem znW {l:List Bs} {k:Nat} {y x:Bs} (h:l[k]? = some y):(l.take (k+1)).count x=(l.take k).count x+(if (y == x)=true then 1 else 0):=by
 rw[List.take_succ,h,List.count_append];congr 1;show [y].count x=_;rw[List.count_cons,List.count_nil,Nat.zero_add]
theorem zj5 (v:Value) (ks:List Bs) (x:Bs) (w:World) (hv:Strs w v ks) (hl:ks.length<=1000000) :
  Calls Tryz.prog 52 #[v,.string (bs x)] w fun e w'=>e=.returned (.int .i64 (ks.count x:Nat))/\Kept w w':=by
 have HV:=Hd hv;obtain ⟨a,c,rfl,hc⟩:=hv.shape;have HF:Hid (∀ n:Nat,(ks.take ks.length).count x=n->ks.count x=n):=fun n h=>(by rwa [List.take_length] at h);generalize ks.count x=R at *;clear hv;go_enter Tryz.func52,Tryz.ntmps52;go_wp2_with fail;go_loopw [5,6] (fun m i wr=>∃ (k n:Nat),k<=ks.length/\i=.int .i64 k/\m=.int .i64 n/\n<=k/\Hid ((ks.take k).count x=n)/\Hid (Kept w wr)) (fun _ i _=>ks.length - (intOf i).toNat)
 case atStart=>exact ⟨0,0,Nat.zero_le _,rfl,rfl,Nat.le_refl _,(by show (ks.take 0).count x=0;simp),Kept.refl _⟩
 case round =>
  obtain ⟨k,n,hk,rfl,rfl,hn,HX,HKR⟩:=hrel;by_cases hlt:k<ks.length
  ·obtain ⟨z,hx⟩:∃ z,ks[k]? = some z:=⟨_,List.getElem?_eq_getElem hlt⟩;obtain ⟨g,o,rfl,hg,d0,-,-⟩:=(HV.out.kept HKR.out).cell_of k z hx;have HX2:=Hd (znW (x:=x) hx);rw[HX.out] at HX2;cases hz:(z == x) with
   | true =>
    rw[hz] at HX2;clear hx HX;go_wp2_with fail;go_roundw
    case rel=>exact ⟨k+1,n+1,by omega,by go_num,by go_num,by omega,HX2.out,HKR.out⟩
    case measure=>simp [intOf];omega
   | false =>
    rw[hz] at HX2;clear hx HX;go_wp2_with fail;go_roundw
    case rel=>exact ⟨k+1,n,by omega,by go_num,rfl,by omega,HX2.out,HKR.out⟩
    case measure=>simp [intOf];omega
  ·obtain rfl:k=ks.length:=(by omega);obtain rfl:=HF.out n HX.out;clear HX HF;go_wp2_with fail;go_ret;exact ⟨rfl,HKR.out⟩
theorem zrL {α:Type} {a b:List α} {k:Nat} {x:α} (h1:a[k]? = some x) (h2:b[k]? = some x) (h:a.take k=b.take k):a.take (k+1)=b.take (k+1):=by
 rw[List.take_succ,List.take_succ,h,h1,h2]
theorem zFi {α:Type} {a b:List α} {k:Nat} {x y:α} (h1:a[k]? = some x) (h2:b[k]? = some y) (h:x≠y):a≠b:=fun e=>by
 subst e;rw[h1] at h2;exact h (Option.some.inj h2)
theorem zs1 (v v':Value) (xs ys:List Bs) (w:World) (hv:Strs w v xs) (hv':Strs w v' ys) (hl:xs.length<=1000000) (hl':ys.length<=1000000) :
  Calls Tryz.prog 11 #[v,v'] w fun e w'=>e=.returned (.bool (decide (xs=ys)))/\Kept w w':=by
 have HV:=Hd hv;have HV2:=Hd hv';obtain ⟨a,c,rfl,hc⟩:=hv.shape;obtain ⟨b,d,rfl,hd⟩:=hv'.shape;have HT:Hid (xs=ys->decide (xs=ys)=true):=fun h=>decide_eq_true h;have HN:Hid (xs≠ys->decide (xs=ys)=false):=fun h=>decide_eq_false h;generalize decide (xs=ys)=R at *;clear hv hv';by_cases hlen:xs.length=ys.length
 ·have hlb:((xs.length:Int) == (ys.length:Int))=true:=(by simp [hlen]);have hln:((xs.length:Int) != (ys.length:Int))=false:=(by simp [hlen]);have HL:=Hd hlen;clear hlen;go_enter Tryz.func11,Tryz.ntmps11;go_wp2_with fail;go_loopw [5] (fun i wr=>∃ k:Nat,k<=xs.length/\i=.int .i64 k/\Hid (xs.take k=ys.take k)/\Hid (Kept w wr)) (fun i _=>xs.length - (intOf i).toNat)
  case atStart=>exact ⟨0,Nat.zero_le _,rfl,(by show xs.take 0=ys.take 0;simp),Kept.refl _⟩
  case round =>
   clear hlb hln;obtain ⟨k,hk,rfl,HX,HKR⟩:=hrel;by_cases hlt:k<xs.length
   ·have hlt2:k<ys.length:=(by have:=HL.out;omega);obtain ⟨x,hx⟩:∃ z,xs[k]? = some z:=⟨_,List.getElem?_eq_getElem hlt⟩;obtain ⟨y,hy⟩:∃ z,ys[k]? = some z:=⟨_,List.getElem?_eq_getElem hlt2⟩;obtain ⟨g,o,rfl,hg,d0,-,-⟩:=(HV.out.kept HKR.out).cell_of k x hx;obtain ⟨g2,o2,rfl,hg2,e0,-,-⟩:=(HV2.out.kept HKR.out).cell_of k y hy;by_cases hz:x=y
    ·subst hz;have HX2:=Hd (zrL hx hy HX.out);have hzb:(x != x)=false:=(by simp);clear hx hy HX;go_wp2_with fail
     go_quiet (fail)
     go_wp2_with fail;go_roundw
     case rel=>exact ⟨k+1,by omega,by go_num,HX2.out,HKR.out.trans (zaB _ _)⟩
     case measure=>simp [intOf];omega
    ·obtain rfl:=HN.out (zFi hx hy hz);have hzb:(x == y)=false:=(by rw[beq_eq_false_iff_ne];exact hz);have hzn:(x != y)=true:=(by rw[bne_iff_ne];exact hz);clear hx hy HX;go_wp2_with fail
     go_quiet (fail)
     go_wp2_with fail;go_ret;exact ⟨rfl,HKR.out.trans (zaB _ _)⟩
   ·obtain rfl:k=xs.length:=(by omega);obtain rfl:=HT.out (by have:=HX.out;rwa [List.take_length,HL.out,List.take_length] at this);clear HX HT HN;go_wp2_with fail;go_ret;exact ⟨rfl,HKR.out⟩
 ·have hlb:((xs.length:Int) == (ys.length:Int))=false:=(by rw[beq_eq_false_iff_ne];omega);obtain rfl:=HN.out (fun e=>hlen (by rw[e]));go_enter Tryz.func11,Tryz.ntmps11;go_wp2_with fail;go_ret;exact ⟨rfl,Kept.refl _⟩
theorem Srcs.at_ {w:World} {a:Option Addr} {n c:Nat} {ss:List SrcT} (h:Srcs w (.slice a n c) ss) (j:Nat) (s:SrcT) (hq:ss[j]? = some s) :
  ∃ g o vA vE vF,a=some ⟨g,o,none⟩/\g<w.heap.size/\w.cell? ⟨g,o+j * 5,none⟩=some (.string (bs s.key))/\w.cell? ⟨g,o+j * 5+1,none⟩=some (.string (bs s.type))/\w.cell? ⟨g,o+j * 5+2,none⟩=some vA/\w.cell? ⟨g,o+j * 5+3,none⟩=some vE/\w.cell? ⟨g,o+j * 5+4,none⟩=some vF /\
   Perss w vA s.author/\Perss w vE s.editor/\Prs w vF s.fields:=by
 obtain ⟨a',c',hv,hc,h3⟩:=h;obtain ⟨rfl,rfl,rfl⟩:=Value.slice.inj hv;obtain ⟨hk,_⟩:=List.getElem?_eq_some_iff.1 hq;obtain ⟨g,o,ha,hg,hcell⟩:=h3 (by omega);obtain ⟨vA,vE,vF,d⟩:=hcell j s hq;exact ⟨g,o,vA,vE,vF,ha,hg,d⟩
def eqS (s t:SrcT):Bool:=s.key == t.key && (s.type == t.type && (decide (s.author=t.author) && (decide (s.editor=t.editor) && decide (s.fields=t.fields))))
theorem zDM (s t:SrcT):eqS s t=true↔s=t:=by
 obtain ⟨a,b,c,d,e⟩:=s;obtain ⟨a',b',c',d',e'⟩:=t;simp [eqS]
instance instDecSrcT:DecidableEq SrcT:=fun s t=>decidable_of_iff _ (zDM s t)
end Go.Proofs.YtmcoomlkbgiboaaGreatDoor
