/- Plain: the collations of the languages. No condition. -/
import Derived.Test.YtmcoomlkbgiboaaGreatDoorW14
import Derived.Test.YtmcoomlkbgiboaaGreatDoorW02
import Derived.Test.YtmcoomlkbgiboaaGreatDoorW04
import Derived.Test.YtmcoomlkbgiboaaGreatDoorW01
import Derived.Test.YtmcoomlkbgiboaaGreatDoorW26
import Derived.Test.YtmcoomlkbgiboaaGreatDoorW27
import Derived.Test.YtmcoomlkbgiboaaGreatDoorW28
import Derived.Test.YtmcoomlkbgiboaaGreatDoorW19
import Derived.Test.YtmcoomlkbgiboaaGreatDoorW21
import Derived.Test.YtmcoomlkbgiboaaGreatDoorW10
import Derived.Test.YtmcoomlkbgiboaaGreatDoorW23
import Derived.Test.YtmcoomlkbgiboaaGreatDoorW18
import Derived.Lib.ItoaNum
import Derived.Lib.Fields
import Derived.BigQuiet
set_option linter.all false
namespace Go.Proofs.YtmcoomlkbgiboaaGreatDoor
open Go.RowKit
def nyB:Bs:=[195,177,195,145]
def zl3 (n:Nat):List Bs:=(List.range n).map fun k=>[UInt8.ofNat (48+k)]
def zC9 (es:Bool) (k:Nat):List Bs:=[UInt8.ofNat (97+k),UInt8.ofNat (65+k)] :: (if es=true/\k=13 then [nyB] else [])
def zpF (es:Bool) (n:Nat):List Bs:=(List.range n).flatMap (zC9 es)
theorem zzT (n:Nat):zl3 (n+1)=zl3 n ++ [[UInt8.ofNat (48+n)]]:=by unfold zl3;rw[List.range_succ,List.map_append];rfl
theorem zqZ (es:Bool) (n:Nat):zpF es (n+1)=zpF es n ++ zC9 es n:=by unfold zpF;rw[List.range_succ,List.flatMap_append];simp
theorem zkQ (n:Nat):(zl3 n).length=n:=by simp [zl3]
theorem zo1 (es:Bool) (n:Nat):(zpF es n).length<=2 * n:=by
 induction n with
 | zero=>simp [zpF]
 | succ n ih =>
  rw[zqZ,List.length_append];have:(zC9 es n).length<=2:=(by unfold zC9;split <;> simp);omega
def wDe:Bs:=[100,101]
def wFr:Bs:=[102,114]
def wEs:Bs:=[101,115]
def zzU:Bs:=[195,164,32,97,44,32,195,182,32,111,44,32,195,188,32,117,44,32,195,132,32,97,44,32,195,150,32,111,44,32,195,156,32,117,44,32,195,159,32,115,115]
def zzV:Bs:=[195,160,32,97,44,32,195,162,32,97,44,32,195,167,32,99,44,32,195,168,32,101,44,32,195,169,32,101,44,32,195,170,32,101,44,32,195,171,32,101,44,32] ++ [195,174,32,105,44,32,195,175,32,105,44,32,195,180,32,111,44,32,195,185,32,117,44,32,195,187,32,117,44,32,195,188,32,117,44,32,195,128,32,97,44,32] ++ ([195,130,32,97,44,32,195,135,32,99,44,32,195,136,32,101,44,32,195,137,32,101,44,32,195,138,32,101,44,32,195,139,32,101,44,32,195,142,32,105,44,32] ++ [195,143,32,105,44,32,195,148,32,111,44,32,195,153,32,117,44,32,195,155,32,117,44,32,195,156,32,117,44,32,195,166,32,97,101,44,32,197,147,32,111,101])
def zzW:Bs:=[195,161,32,97,44,32,195,169,32,101,44,32,195,173,32,105,44,32,195,179,32,111,44,32,195,186,32,117,44,32,195,188,32,117,44] ++ [32,195,129,32,97,44,32,195,137,32,101,44,32,195,141,32,105,44,32,195,147,32,111,44,32,195,154,32,117,44,32,195,156,32,117]
def zDa:List Pr:=[([195,164],[97]),([195,182],[111]),([195,188],[117]),([195,132],[97]),([195,150],[111]),([195,156],[117]),([195,159],[115,115])]
def zDb:List Pr:=[([195,160],[97]),([195,162],[97]),([195,167],[99]),([195,168],[101]),([195,169],[101]),([195,170],[101]),([195,171],[101]),([195,174],[105]),([195,175],[105]),([195,180],[111]),([195,185],[117]),([195,187],[117]),([195,188],[117]),([195,128],[97]),
 ([195,130],[97]),([195,135],[99]),([195,136],[101]),([195,137],[101]),([195,138],[101]),([195,139],[101]),([195,142],[105]),([195,143],[105]),([195,148],[111]),([195,153],[117]),([195,155],[117]),([195,156],[117]),([195,166],[97,101]),([197,147],[111,101])]
def zDc:List Pr:=[([195,161],[97]),([195,169],[101]),([195,173],[105]),([195,179],[111]),([195,186],[117]),([195,188],[117]),([195,129],[97]),([195,137],[101]),([195,141],[105]),([195,147],[111]),([195,154],[117]),([195,156],[117])]
def rkL (lang:Bs):List Pr:=if lang=wDe then zDa else if lang=wFr then zDb else if lang=wEs then zDc else []
def zsT (lang:Bs):ColT:=⟨rkL lang,zl3 10 ++ zpF (lang == wEs) 26,[]⟩
def zb8 (p:Pr):Bs:=p.1 ++ (32 :: p.2)
theorem zDL:(Lib.splitB (bs [44,32]) 0 (Lib.countB (bs zzU) (bs [44,32])) (bs zzU)).map (·.data.toList)=zDa.map zb8:=by decide +kernel
theorem zDM:(Lib.splitB (bs [44,32]) 0 (Lib.countB (bs zzV) (bs [44,32])) (bs zzV)).map (·.data.toList)=zDb.map zb8:=by decide +kernel
theorem zDN:(Lib.splitB (bs [44,32]) 0 (Lib.countB (bs zzW) (bs [44,32])) (bs zzW)).map (·.data.toList)=zDc.map zb8:=by decide +kernel
theorem zDO:Lib.countB (bs zzU) (bs [44,32])+1=7:=by decide +kernel
theorem zDP:Lib.countB (bs zzV) (bs [44,32])+1=28:=by decide +kernel
theorem zDQ:Lib.countB (bs zzW) (bs [44,32])+1=12:=by decide +kernel
theorem zB8:∀ k:Nat,k<10->Lib.itoa (k:Int)=[UInt8.ofNat (48+k)]:=by decide +kernel
theorem zl4:∀ (l cur:Bs),(∀ b∈l,Lib.isSp b=(b == 32))->Lib.fieldsGo cur l=((l.foldl (zb0 32) ([],cur)).1 ++ [(l.foldl (zb0 32) ([],cur)).2]).filter (fun x=>!x.isEmpty)
 | [],cur,_=>by
  show (if cur.isEmpty then [] else [cur])=[cur].filter _;cases cur <;> rfl
 | b :: l,cur,h=>by
  have hb:=h b (List.mem_cons_self ..);have ih:=fun c=>zl4 l c (fun x hx=>h x (List.mem_cons_of_mem _ hx));show (if Lib.isSp b then (if cur.isEmpty then Lib.fieldsGo [] l else cur :: Lib.fieldsGo [] l) else Lib.fieldsGo (cur ++ [b]) l)=_;rw[hb,List.foldl_cons];by_cases q:b=32
  ·have e:zb0 32 (([]:List Bs),cur) b=([cur],[]):=(by subst q;rfl);rw[if_pos (by simpa using q),e,zeR];show _=(cur :: ((l.foldl (zb0 32) ([],[])).1 ++ [(l.foldl (zb0 32) ([],[])).2])).filter _;rw[List.filter_cons,ih []];cases cur <;> rfl
  ·have e:zb0 32 (([]:List Bs),cur) b=([],cur ++ [b]):=(by unfold zb0;simp [q]);rw[if_neg (by simpa using q),e,ih]
theorem zq0 (l:Bs) (hb:∀ b∈l,Lib.isSp b=(b == 32)) (hn:∀ x∈za4 32 l,x≠[]):Lib.fields l=za4 32 l:=by
 unfold Lib.fields;rw[zl4 l [] hb];show (za4 32 l).filter _=_;rw[List.filter_eq_self];intro x hx;have:=hn x hx;cases x with
 | nil=>exact absurd rfl this
 | cons a x=>rfl
theorem zi8:∀ (l cur:Bs) (b:UInt8),b∈cur ++ l->b=32\/∃ x∈(l.foldl (zb0 32) ([],cur)).1 ++ [(l.foldl (zb0 32) ([],cur)).2],b∈x
 | [],cur,b,h=>.inr ⟨cur,by simp,by simpa using h⟩
 | c :: l,cur,b,h=>by
  rw[List.foldl_cons];by_cases q:c=32
  ·have e:zb0 32 (([]:List Bs),cur) c=([cur],[]):=(by subst q;rfl);rw[e,zeR];rcases List.mem_append.1 h with r|r
   ·exact .inr ⟨cur,by simp,r⟩
   ·rcases List.mem_cons.1 r with r|r
    ·exact .inl (r.trans q)
    ·rcases zi8 l [] b (by simpa using r) with k|⟨x,k1,k2⟩
     ·exact .inl k
     ·refine .inr ⟨x,?_,k2⟩;rw[List.mem_append] at k1 ⊢;rcases k1 with k1|k1
      ·exact .inl (List.mem_append.2 (.inr k1))
      ·exact .inr k1
  ·have e:zb0 32 (([]:List Bs),cur) c=([],cur ++ [c]):=(by unfold zb0;simp [q]);rw[e];exact zi8 l (cur ++ [c]) b (by simpa using h)
theorem zsU (l:Bs) (b:UInt8) (h:b∈l):b=32\/∃ x∈za4 32 l,b∈x:=zi8 l [] b (by simpa using h)
def kYr:Bs:=[121,101,97,114]
def zzX (s:SrcT):KeyT:=⟨zf2 s,zeZ ((zbC s.fields kYr).getD []),(zbC s.fields zg3).getD [],s.key⟩
def zi9 (s:SrcT):SorT:=⟨zzX s,s⟩
def cfO (c:ColT) (ws:List Bs) (a b:SrcT):Int:=cfW c ws (zzX a) (zzX b)
def zAW (c:ColT) (ws:List Bs) (l:List SrcT):List SrcT:=zj8 (cfO c ws) l
theorem zB9 (c:ColT) (ws:List Bs) (l:List SrcT):zxB (fun a b=>cfW c ws a.k b.k) (l.map zi9)=(zAW c ws l).map zi9:=by
 unfold zxB zAW;rw[zoU (fun x y=>(zDE SorT.k (zzD c ws)).anti x y)];exact (zzE (fun a b:SorT=>cfW c ws a.k b.k) zi9 l).symm
theorem zCa (c:ColT) (ws:List Bs) (l:List SrcT):(zAW c ws l).length=l.length:=zqM _
theorem zq1 (c:ColT) (ws:List Bs) (l:List SrcT):(zAW c ws l).Perm l:=znO _
def FitL (s:SrcT):Prop:=s.author.length<=5/\s.editor.length<=5/\s.fields.length<=12/\s.key.length+s.type.length<=200/\(∀ f∈s.fields,f.1.length+f.2.length<=200)/\∀ q∈s.author ++ s.editor,q.1.length+q.2.1.length+q.2.2.1.length+q.2.2.2.length<=200
def FewY (y:StyT):Prop:=y.entries.length<=12/\y.cite.length+y.bare.length+y.between.length+y.begin_.length+y.end_.length+y.sort.length+y.name.length<=400/\(∀ p∈y.entries,p.1.length+p.2.length<=300)/\(-9223372036854775808<=y.most/\y.most<=9223372036854775807)
theorem FewY.small {y:StyT} (h:FewY y):SmallY y:=by
 obtain ⟨h1,h2,h3,_⟩:=h;refine ⟨by omega,by omega,by omega,by omega,by omega,by omega,by omega,by omega,fun p hp=>?_⟩;have:=h3 p hp;constructor <;> omega
theorem zq2 (s:SrcT):∀ q∈zj9 s,q∈s.author ++ s.editor:=fun q h=>by
 unfold zj9 at h
 split at h
 ·exact List.mem_append_right _ h
 ·exact List.mem_append_left _ h
theorem zq3 {s:SrcT} (h:FitL s):(zj9 s).length<=5:=by
 unfold zj9
 split
 ·exact h.2.1
 ·exact h.1
theorem zCb (a b c d:Bs):(zDF a b c d false).length<=a.length+b.length+c.length+d.length+1000:=by
 have h1:=zeV [c,a];have h2:zu2 [c,a]=c.length+1+(a.length+1+0):=rfl;have h3:ziM b false=b:=rfl;unfold zDF;rw[h3,List.length_append,List.length_append];have h4:(if b=[] then ([]:Bs) else [44,32] ++ b).length<=b.length+2:=(by split <;> simp);have h5:(if d=[] then ([]:Bs) else [44,32] ++ d).length<=d.length+2:=(by split <;> simp);omega
theorem zq4 {s:SrcT} (h:FitL s):(zf2 s).length<=9000:=by
 have h1:=zcH 1200 ((zj9 s).map zm3) (fun x hx=>by
  obtain ⟨q,hq,rfl⟩:=List.mem_map.1 hx;have h2:=h.2.2.2.2.2 q (zq2 s q hq);have h3:=zCb q.1 q.2.1 q.2.2.1 q.2.2.2;unfold zm3;omega)
 have h4:=zq3 h;rw[List.length_map] at h1;have h5:(zj9 s).length * (1200+2)<=5 * (1200+2):=Nat.mul_le_mul_right _ h4;have h6:zf2 s=Lib.join ((zj9 s).map zm3) ziV:=rfl;rw[h6];omega
theorem zo2 {ps:List Pr} {n:Nat} (h:∀ p∈ps,p.1.length+p.2.length<=n) (k:Bs):((zbC ps k).getD []).length<=n:=by
 unfold zbC;cases hx:ps.find? fun q=>q.1 == k with
 | none=>simp
 | some p =>
  have:=h p (List.mem_of_find?_eq_some hx);simp only[Option.map_some,Option.getD_some];omega
theorem zzY {s:SrcT} (h:FitL s):FitKy (zzX s):=by
 have h1:=zq4 h;have h2:=zo2 h.2.2.2.2.1 zg3;have h3:=h.2.2.2.1;have h4:=zhG ((zbC s.fields kYr).getD []);exact ⟨by show (zf2 s).length<=_;omega,by show ((zbC s.fields zg3).getD []).length<=_;omega,by show s.key.length<=_;omega,by show _<=zeZ _;omega,by show zeZ _<=_;omega⟩
theorem zwC (lang:Bs):SmallC (zsT lang):=by
 have h1:=zo1 (lang == wEs) 26;have hr:rkL lang=zDa\/rkL lang=zDb\/rkL lang=zDc\/rkL lang=[]:=by
  unfold rkL
  split
  ·exact .inl rfl
  ·split
   ·exact .inr (.inl rfl)
   ·split
    ·exact .inr (.inr (.inl rfl))
    ·exact .inr (.inr (.inr rfl))
 refine ⟨?_,?_,?_,?_,?_⟩
 ·show (rkL lang).length<=_;rcases hr with e|e|e|e <;> rw[e] <;> decide
 ·show (zl3 10 ++ zpF (lang == wEs) 26).length<=_;rw[List.length_append,zkQ];omega
 ·show ([]:Bs).length<=_;simp
 ·intro s hs;rcases List.mem_append.1 (show s∈zl3 10 ++ zpF (lang == wEs) 26 from hs) with h|h
  ·unfold zl3 at h;obtain ⟨k,-,rfl⟩:=List.mem_map.1 h;simp
  ·unfold zpF at h;obtain ⟨k,-,h⟩:=List.mem_flatMap.1 h;unfold zC9 at h;rcases List.mem_cons.1 h with rfl|h
   ·simp
   ·split at h
    ·rw[List.mem_singleton.1 h];decide
    ·cases h
 ·show ∀ p∈rkL lang,_;rcases hr with e|e|e|e <;> rw[e] <;> decide
def wsY (y:StyT):List Bs:=Lib.fields y.sort
theorem zuB {x:Bs} (h:zoM x=true):x≠[]/\∀ b∈x,b.toNat<128/\Lib.isSp b=false:=by
 rcases zoN h with rfl|rfl|rfl|rfl
 all_goals exact ⟨by decide,by decide +kernel⟩
theorem znS {l:Bs} (h:zm2 l=0):l=[]\/(za4 32 l).all zoM=true:=by
 unfold zm2 at h
 split at h
 ·exact .inl ‹_›
 ·right
  split at h
  ·cases h
  ·rename_i q;simpa using q
theorem znT {l:Bs} (h:zm2 l=0):∀ b∈l,b.toNat<128/\Lib.isSp b=(b == 32):=by
 intro b hb;rcases znS h with rfl|q
 ·cases hb
 ·rcases zsU l b hb with rfl|⟨x,hx,hbx⟩
  ·decide +kernel
  ·have h1:=(zuB (List.all_eq_true.1 q x hx)).2 b hbx;refine ⟨h1.1,?_⟩;rw[h1.2];symm;rw[beq_eq_false_iff_ne];intro e;subst e;exact absurd h1.2 (by decide +kernel)
theorem zq5 {y:StyT} (h:zdP y=0):zm2 y.sort=0:=by
 unfold zdP at h
 split at h
 ·cases h
 ·split at h
  ·cases h
  ·split at h
   ·rename_i q;exact absurd h q
   ·rename_i q;simpa using q
theorem zzZ {y:StyT} (h:zdP y=0) (h0:y.sort≠[]):wsY y=za4 32 y.sort:=by
 have h1:=zq5 h;rcases znS h1 with q|q
 ·exact absurd q h0
 ·exact zq0 y.sort (fun b hb=>(znT h1 b hb).2) (fun x hx=>(zuB (List.all_eq_true.1 q x hx)).1)
theorem zDR {y:StyT} (h0:y.sort=[]):wsY y=[]:=by unfold wsY;rw[h0];rfl
theorem zDS {y:StyT} (h:zdP y=0):(wsY y).length<=y.sort.length+1:=by
 by_cases h0:y.sort=[]
 ·rw[zDR h0];simp
 ·rw[zzZ h h0,zcY];have:=List.count_le_length (a:=(32:UInt8)) (l:=y.sort);omega
def zCc (y:StyT) (lang:Bs) (l:List SrcT):Int × List SrcT:=if zdP y=0 then (0,zAW (zsT lang) (wsY y) l) else (zdP y,[])
theorem zwD {l:List Bs} {k:Nat} {y x:Bs} (h:l[k]? = some y):(l.take (k+1)).count x=(l.take k).count x+(if (y == x)=true then 1 else 0):=by
 rw[List.take_succ,h,List.count_append];congr 1;show [y].count x=_;rw[List.count_cons,List.count_nil,Nat.zero_add]
theorem zgH {α:Type} {a b:List α} {k:Nat} {x:α} (h1:a[k]? = some x) (h2:b[k]? = some x) (h:a.take k=b.take k):a.take (k+1)=b.take (k+1):=by
 rw[List.take_succ,List.take_succ,h,h1,h2]
theorem zsV {α:Type} {a b:List α} {k:Nat} {x y:α} (h1:a[k]? = some x) (h2:b[k]? = some y) (h:x≠y):a≠b:=fun e=>by
 subst e;rw[h1] at h2;exact h (Option.some.inj h2)
end Go.Proofs.YtmcoomlkbgiboaaGreatDoor
