/- value of publisherref31. Conditions: lengths. -/
import Derived.Test.YtmcoomlkbgiboaaGreatDoorU33
import Derived.Test.YtmcoomlkbgiboaaGreatDoorU22
import Derived.Test.YtmcoomlkbgiboaaGreatDoorU34
import Derived.Test.YtmcoomlkbgiboaaGreatDoorU19
import Derived.Test.YtmcoomlkbgiboaaGreatDoorU08
import Derived.Deep.RegionHeld3
import Derived.BigQuiet
set_option linter.all false
set_option maxRecDepth 100000
set_option maxHeartbeats 12800000
namespace Go.Proofs.YtmcoomlkbgiboaaGreatDoor
open Go.RowKit
theorem zDX {c:FilT} {k x:Bs} (h:zfB (zfR c) k=some x):zmM c k=x:=by
 rw[ziM,h];rfl
theorem zCi {c:FilT} {k:Bs} (h:(zfR c).all (fun e=>!(e.1 == k))=true):zmM c k=(za5 c.fields k).getD []:=by
 rw[ziM];have:zfB (zfR c) k=none:=by
  unfold zfB;rw[Option.map_eq_none_iff,List.find?_eq_none];intro e he;have:=List.all_eq_true.1 h e he;simpa using this
 rw[this];rfl
def ValPS (r:Bs) (w:World) (e:Ending) (w':World):Prop:=e=.returned (.string (bs r))/\Kept w w'
theorem zwB (c:FilT) (k:Bs) (vA vE vF vY:Value) (y:StyT) (w:World) (hy:y.most=c.most) (hs:FitF c)
  (hA:Perss w vA c.author) (hE:Perss w vE c.editor) (hF:Prs w vF c.fields) :
  Calls Tryz.prog 152 #[.string (bs k),zhB c.key c.type vA vE vF,zdU vY y,.string (bs c.lang),.string (bs c.suffix),.int .i64 c.number] w (ValPS (zmM c k) w):=by
 obtain ⟨f1,f2,f3,f4,f5,f6,f7,f8⟩:=hs;have HA:=Hd hA;have HE:=Hd hE;have HF:=Hd hF;have HLA:=Hd (fun w m full h=>zn3 vA c.author c.lang m full w h f1 f3);have HLE:=Hd (fun w m full h=>zn3 vE c.editor c.lang m full w h f2 f4);have HYR:=Hd (fun w h=>zvR c.key c.type vA vE vF c.fields w h f6 f7);have HFD:=Hd (fun w h=>znC c.key c.type vA vE vF c.fields k w h f6);unfold FieldPost at HFD;have HYN:Hid (zdW ((za5 c.fields [121,101,97,114]).getD [])=zf6 c):=rfl;rw[HYN.out] at HYR;have hyn:0<=zf6 c/\zf6 c<=9999:=zfT _;have HNM:=Hd (fun n w h=>zv8 n w h);have HIN:=Hd (fun x h=>zDX (c:=c) (k:=k) (x:=x) h);have HOUT:=Hd (zCi (c:=c) (k:=k));have HYS:Hid (zjC c=if zf6 c=0 then [] else Lib.itoa (zf6 c)):=rfl;have HNS:Hid (zw0 c=if c.number<1 then [] else Lib.itoa c.number):=rfl;have HSP:Hid (zfR c=[(zdH,zcN c.author c.lang c.most false),(zjB,zcN c.editor c.lang c.most false),(zgY,zcN c.author c.lang c.most true),(zgZ,zcN c.editor c.lang c.most true),(zdY,zjC c),(zb9,c.suffix),(zbD,zw0 c),(zvN,c.key),(zvO,c.type)]):=rfl;clear HYN hA hE hF f1 f2 f3 f4 f6 f7;generalize zjC c=ys at *;generalize zw0 c=ns at *;generalize zf6 c=yn at *;generalize zmM c k=T at *;generalize zfR c=sp at *;unfold zdU zaD zhB at *;have HK0:=Hd (zaA w (.cells #[.string (bs c.key),.string (bs c.type),vA,vE,vF] 50));have HK1:=Hd (zaA (w.alloc (.cells #[.string (bs c.key),.string (bs c.type),vA,vE,vF] 50)) (.cells (zaD vY y) 33));unfold zaD at HK1;rw[hy] at HK1 ⊢;clear hy;go_enter Tryz.func152,Tryz.ntmps152;go_wp2_with fail
 all_goals
  have HKW:=Hd (HK0.out.trans HK1.out);have HA1:=Hd (HA.out.kept HKW.out);have HE1:=Hd (HE.out.kept HKW.out);have HF1:=Hd (HF.out.kept HKW.out);clear HK0 HK1 HA HE HF;generalize World.alloc (World.alloc _ _) _=w0 at HA1 HE1 HF1 HKW ⊢
 ·have HV:Hid (T=zcN c.author c.lang c.most false):=by
   have hb:(k == [97,117,116,104,111,114])=true:=(by assumption);refine HIN.out _ ?_;rw[HSP.out,eq_of_beq hb];rfl
  refine (HLA.out _ _ _ HA1.out f5).mono ?_;rintro e w1 ⟨rfl,hk1⟩;have HK:=Hd (HKW.out.trans hk1);clear hk1;go_wp2_with fail;go_ret;exact ⟨zb1 HV.out.symm,HK.out⟩
 ·have HV:Hid (T=zcN c.author c.lang c.most true):=by
   have hb:(k == [97,117,116,104,111,114,115])=true:=(by assumption);refine HIN.out _ ?_;rw[HSP.out,eq_of_beq hb];rfl
  refine (HLA.out _ _ _ HA1.out f5).mono ?_;rintro e w1 ⟨rfl,hk1⟩;have HK:=Hd (HKW.out.trans hk1);clear hk1;go_wp2_with fail;go_ret;exact ⟨zb1 HV.out.symm,HK.out⟩
 ·have HV:Hid (T=zcN c.editor c.lang c.most false):=by
   have hb:(k == [101,100,105,116,111,114])=true:=(by assumption);refine HIN.out _ ?_;rw[HSP.out,eq_of_beq hb];rfl
  refine (HLE.out _ _ _ HE1.out f5).mono ?_;rintro e w1 ⟨rfl,hk1⟩;have HK:=Hd (HKW.out.trans hk1);clear hk1;go_wp2_with fail;go_ret;exact ⟨zb1 HV.out.symm,HK.out⟩
 ·have HV:Hid (T=zcN c.editor c.lang c.most true):=by
   have hb:(k == [101,100,105,116,111,114,115])=true:=(by assumption);refine HIN.out _ ?_;rw[HSP.out,eq_of_beq hb];rfl
  refine (HLE.out _ _ _ HE1.out f5).mono ?_;rintro e w1 ⟨rfl,hk1⟩;have HK:=Hd (HKW.out.trans hk1);clear hk1;go_wp2_with fail;go_ret;exact ⟨zb1 HV.out.symm,HK.out⟩
 ·have HV:Hid (T=ys):=by
   have hb:(k == [121,101,97,114])=true:=(by assumption);refine HIN.out _ ?_;rw[HSP.out,eq_of_beq hb];rfl
  obtain ⟨n,rfl⟩:∃ n:Nat,yn=n:=⟨yn.toNat,by omega⟩;refine (HYR.out _ HF1.out).mono ?_;rintro e w1 ⟨rfl,hk1⟩;have HK:=Hd (HKW.out.trans hk1);clear hk1;by_cases hn:n=0
  ·subst hn;have HZ:=Hd (HV.out.trans (HYS.out.trans (if_pos rfl)));clear HYS HV;go_wp2_with fail;go_ret;exact ⟨zb1 HZ.out.symm,HK.out⟩
  ·have hn':0<n:=(by omega);have HZ:=Hd (HV.out.trans (HYS.out.trans ((if_neg (by omega)).trans (zmA n))));clear HYS HV;go_wp2_with fail;refine (HNM.out n _ (by omega)).mono ?_;rintro e w2 ⟨rfl,hk2⟩;have HK2:=Hd (HK.out.trans hk2);clear hk2;go_wp2_with fail;go_ret;exact ⟨zb1 HZ.out.symm,HK2.out⟩
 ·have HV:Hid (T=c.suffix):=by
   have hb:(k == [115,117,102,102,105,120])=true:=(by assumption);refine HIN.out _ ?_;rw[HSP.out,eq_of_beq hb];rfl
  go_ret;exact ⟨zb1 HV.out.symm,HKW.out⟩
 ·have HV:Hid (T=ns):=by
   have hb:(k == [110,117,109,98,101,114])=true:=(by assumption);refine HIN.out _ ?_;rw[HSP.out,eq_of_beq hb];rfl
  have hn':0<c.number:=(by assumption);have HZ:=Hd (HV.out.trans (HNS.out.trans (if_neg (by omega))));obtain ⟨n,hcn⟩:∃ n:Nat,c.number=n:=⟨c.number.toNat,by omega⟩;rw[hcn,zmA] at HZ;clear HNS HV;have HN1:=Hd (fun w=>HNM.out n w (by omega));rw[<- hcn] at HN1;refine (HN1.out _).mono ?_;rintro e w2 ⟨rfl,hk2⟩;have HK2:=Hd (HKW.out.trans hk2);clear hk2;go_wp2_with fail;go_ret;exact ⟨zb1 HZ.out.symm,HK2.out⟩
 ·have HV:Hid (T=ns):=by
   have hb:(k == [110,117,109,98,101,114])=true:=(by assumption);refine HIN.out _ ?_;rw[HSP.out,eq_of_beq hb];rfl
  have hn2:¬ 0<c.number:=(by omega);have HZ:=Hd (HV.out.trans (HNS.out.trans (if_pos (by omega))));go_ret;exact ⟨zb1 HZ.out.symm,HKW.out⟩
 ·have HV:Hid (T=c.key):=by
   have hb:(k == [107,101,121])=true:=(by assumption);refine HIN.out _ ?_;rw[HSP.out,eq_of_beq hb];rfl
  go_ret;exact ⟨zb1 HV.out.symm,HKW.out⟩
 ·have HV:Hid (T=c.type):=by
   have hb:(k == [116,121,112,101])=true:=(by assumption);refine HIN.out _ ?_;rw[HSP.out,eq_of_beq hb];rfl
  go_ret;exact ⟨zb1 HV.out.symm,HKW.out⟩
 ·have HV:=Hd (HOUT.out (by
   rw[HSP.out];have hx:∀ l:Bs,(k == l)=false->(!(l == k))=true:=fun l h=>by
    rw[Bool.not_eq_true',beq_eq_false_iff_ne];exact fun q=>(beq_eq_false_iff_ne.1 h) q.symm
   have q1:(k == [97,117,116,104,111,114])=false:=(by assumption);have q2:(k == [97,117,116,104,111,114,115])=false:=(by assumption);have q3:(k == [101,100,105,116,111,114])=false:=(by assumption);have q4:(k == [101,100,105,116,111,114,115])=false:=(by assumption);have q5:(k == [121,101,97,114])=false:=(by assumption);have q6:(k == [115,117,102,102,105,120])=false:=(by assumption);have q7:(k == [110,117,109,98,101,114])=false:=(by assumption);have q8:(k == [107,101,121])=false:=(by assumption);have q9:(k == [116,121,112,101])=false:=(by assumption);simp only[List.all_cons,List.all_nil,Bool.and_true];exact Bool.and_eq_true_iff.2 ⟨hx _ q1,Bool.and_eq_true_iff.2 ⟨hx _ q3,Bool.and_eq_true_iff.2 ⟨hx _ q2,Bool.and_eq_true_iff.2 ⟨hx _ q4,Bool.and_eq_true_iff.2 ⟨hx _ q5,Bool.and_eq_true_iff.2 ⟨hx _ q6,Bool.and_eq_true_iff.2 ⟨hx _ q7,Bool.and_eq_true_iff.2 ⟨hx _ q8,hx _ q9⟩⟩⟩⟩⟩⟩⟩⟩))
  refine (HFD.out _ HF1.out).mono ?_;rintro e w1 ⟨rfl,hk1⟩;have HK:=Hd (HKW.out.trans hk1);clear hk1;go_wp2_with fail;go_ret;exact ⟨zb1 HV.out.symm,HK.out⟩
theorem zAf (l:List Rp) (val:Bs->Bs) (g k:Nat) (hk:k<l.length):zeL (l.take (k+1)) val g=(zeL (l.take k) val g || (decide (0<g) && ((l[k].grp == g) && (!(l[k].fld == []) && (val l[k].fld == []))))):=by
 rw[List.take_succ_eq_append_getElem hk];unfold zeL;rw[List.any_append];simp
def zpJ (G:Nat->Bool) (val:Bs->Bs) (p:Rp):Bs:=if G p.grp=true then [] else p.txt ++ (if p.fld=[] then [] else val p.fld)
theorem zwC (l:List Rp) (val:Bs->Bs):zDr l val=l.flatMap (zpJ (zeL l val) val):=rfl
theorem zwD (ps:List Rp) (f:Rp->Bs) (k:Nat) (hk:k<ps.length):(ps.take (k+1)).flatMap f=(ps.take k).flatMap f ++ f ps[k]:=by
 rw[List.take_succ_eq_append_getElem hk,List.flatMap_append];simp
theorem zAg (ps:List Rp) (f:Rp->Bs) (n:Nat) (h:∀ p∈ps,(f p).length<=n):(ps.flatMap f).length<=ps.length * n:=by
 induction ps with
 | nil=>simp
 | cons p ps ih =>
  rw[List.flatMap_cons,List.length_append,List.length_cons,Nat.succ_mul];have h1:=h p (List.mem_cons_self ..);have h2:=ih (fun q hq=>h q (List.mem_cons_of_mem _ hq));omega
theorem zg6:∀ (f:Nat) (r:Bs) (G g:Nat) (l:List Rp),zkA f r G g=some l->l.length<=r.length
 | 0,_,_,_,_,h=>by cases h
 | f+1,[],G,g,l,h=>by
  rw[zkO] at h
  split at h
  ·cases h;simp
  ·cases h
 | f+1,b :: r,G,g,l,h=>by
  cases hin:zbN zcA b with
  | false =>
   rw[zoN _ _ _ hin,Option.map_eq_some_iff] at h;obtain ⟨l',h1,rfl⟩:=h;have:=zg6 f r G g l' h1;simp only[List.length_cons];omega
  | true =>
   rcases zcX hin with rfl|rfl|rfl|rfl
   ·rw[zoO] at h
    split at h
    ·rw[Option.map_eq_some_iff] at h;obtain ⟨l',h1,rfl⟩:=h;have:=zg6 f _ G g l' h1;rw[List.length_drop] at this;simp only[List.length_cons];omega
    ·cases h
   ·rw[zoP] at h;cases h
   ·rw[zlN] at h
    split at h
    ·have:=zg6 f r _ _ l h;simp only[List.length_cons];omega
    ·cases h
   ·rw[zlO] at h
    split at h
    ·cases h
    ·have:=zg6 f r _ _ l h;simp only[List.length_cons];omega
theorem zDY (ps:List Pc):∀ q∈ziY ps,q.txt.length<=1:=by
 intro q hq;unfold ziY at hq;rw[List.mem_flatMap] at hq;obtain ⟨p,_,h⟩:=hq;unfold zwZ at h
 split at h
 ·rw[List.mem_singleton] at h;subst h;simp
 ·rw[List.mem_map] at h;obtain ⟨b,_,rfl⟩:=h;simp
theorem zwE (c:FilT) (t:Bs) (vA vE vF vY:Value) (y:StyT) (w:World) (hy:y.most=c.most) (hYo:vY.oneCell'=true) (ht:t.length<=100000) (hs:FitV c)
  (hA:Perss w vA c.author) (hE:Perss w vE c.editor) (hF:Prs w vF c.fields) :
  Calls Tryz.prog 107 #[.string (bs t),zhB c.key c.type vA vE vF,zdU vY y,.string (bs c.lang),.string (bs c.suffix),.int .i64 c.number] w fun e w'=>e=.returned (.tuple #[.string (bs (zdD c t)),.int .i64 (zcW t)])/\Kept w w':=by
 have HTE:=Hd (fun w=>zeA t w ht);have HRP:=Hd (fun w=>zjK t w ht);unfold PartsP at HRP;have HA:=Hd hA;have HE:=Hd hE;have HF:=Hd hF;have HVAL:=Hd (fun k w h1 h2 h3=>zwB c k vA vE vF vY y w hy hs.1 h1 h2 h3);unfold ValPS at HVAL;have HVL:=Hd (fun k=>zt3 c hs k);have HNIL:Hid (zcW t≠0->zdD c t=[]):=fun h=>by
  have:zeK t=[]:=(by unfold zeK;rw[if_neg h]);unfold zdD;rw[this];rfl
 have HRT:Hid (zcW t=0->zlP t=some (ziY (zeK t))):=fun h=>zz8 h;have HFS:Hid (zdD c t=(ziY (zeK t)).flatMap (zpJ (zeL (ziY (zeK t)) (zmM c)) (zmM c))):=by
  show _=_;rw[<- zwC,zDs _ _ (fun p hp=>(zoQ p hp).1)];rfl
 have HTX:=Hd (zDY (zeK t));have HLN:Hid (zcW t=0->(ziY (zeK t)).length<=100000):=fun h=>by
  have:=zg6 _ _ _ _ _ ((zsS t).symm.trans (zz8 h));omega
 clear hA hE hF hs hy;generalize zdD c t=T at *;generalize zcW t=E at *;generalize ziY (zeK t)=ps at *;generalize zlP t=R at *;generalize zmM c=val at *;unfold zdU zaD zhB at HVAL ⊢;have HS0:=Hd (Blk.new w 50 #[.string (bs c.key),.string (bs c.type),vA,vE,vF]);have HK0:=Hd (zaA w (.cells #[.string (bs c.key),.string (bs c.type),vA,vE,vF] 50));have HS1:=Hd (Blk.new (w.alloc (.cells #[.string (bs c.key),.string (bs c.type),vA,vE,vF] 50)) 33 (zaD vY y));have HK1:=Hd (zaA (w.alloc (.cells #[.string (bs c.key),.string (bs c.type),vA,vE,vF] 50)) (.cells (zaD vY y) 33));unfold zaD at HK1;have e1:(w.alloc (.cells #[.string (bs c.key),.string (bs c.type),vA,vE,vF] 50)).heap.size=w.heap.size+1:=(by simp);rw[e1] at HS1;unfold zaD at HS1;go_enter Tryz.func107,Tryz.ntmps107;go_wp2_with fail;have HSA:=Hd (HS0.out.kept HK1.out);have HKW:=Hd (HK0.out.trans HK1.out);clear HS0 HK0 HK1 e1;generalize World.alloc (World.alloc _ _) _=w0 at HS1 HSA HKW ⊢;obtain ⟨S,HSS⟩:∃ B,Hid (w.heap.size=B):=⟨_,rfl⟩;rw[HSS.out] at HS1 HSA ⊢;obtain ⟨Y,HYY⟩:∃ B,Hid (S+1=B):=⟨_,rfl⟩;rw[HYY.out] at HS1 ⊢;refine (HTE.out _).mono ?_;rintro e w1 ⟨rfl,hk1⟩;have HKW1:=Hd (HKW.out.trans hk1);have HSA1:=Hd (HSA.out.kept hk1);have HSY1:=Hd (HS1.out.kept hk1);clear hk1 HTE HSA HS1 HKW HSS HYY;by_cases hE0:E=0
 case neg =>
  have hE':(E == 0)=false:=(by rw[beq_eq_false_iff_ne];exact hE0);have HNN:=Hd (HNIL.out hE0);clear hE0;go_wp2_with fail;go_ret2;exact ⟨by rw[HNN.out];rfl,HKW1.out⟩
 subst hE0;have HRS:=Hd (HRT.out rfl);have hln:=HLN.out rfl;rw[HRS.out] at HRP;simp only[Option.isSome_some,Option.some.injEq] at HRP;clear HRT HLN HNIL HRS;go_wp2_with fail;refine (HRP.out _).mono ?_;rintro e w2 ⟨v,rfl,-,hp,hk2⟩;have HP2:=Hd (hp ps rfl);have HKW2:=Hd (HKW1.out.trans hk2);have HSA2:=Hd (HSA1.out.kept hk2);have HSY2:=Hd (HSY1.out.kept hk2);obtain ⟨aP,cP,rfl,hcp⟩:=HP2.out.form;clear hp hk2 HRP HSA1 HSY1 HKW1;have HFN:=Hd (zwD ps (zpJ (zeL ps val) val));have HFL:Hid (∀ k,((ps.take k).flatMap (zpJ (zeL ps val) val)).length<=2000100000000):=fun k=>by
  have h1:=zAg (ps.take k) (zpJ (zeL ps val) val) 20000001 (fun p hp=>by
   have h3:=HTX.out p (List.mem_of_mem_take hp);unfold zpJ
   split
   ·simp
   ·rw[List.length_append]
    split
    ·simp;omega
    ·have:=HVL.out p.fld;omega)
  have h2:(ps.take k).length<=100000:=(by rw[List.length_take];omega);have h3:(ps.take k).length * 20000001<=100000 * 20000001:=Nat.mul_le_mul_right _ h2;omega
 have HFT:Hid (T=(ps.take ps.length).flatMap (zpJ (zeL ps val) val)):=by
  show _=_;rw[HFS.out,List.take_of_length_le (Nat.le_refl _)]
 have HON:Hid (∀ g,zeL (ps.take ps.length) val g=zeL ps val g):=fun g=>(by rw[List.take_of_length_le (Nat.le_refl _)]);have HO0:Hid (∀ g,zeL (ps.take 0) val g=false):=fun g=>rfl;have HGN:=Hd (fun g k hk=>zAf ps val g k hk);have HPR:Hid (∀ p,zpJ (zeL ps val) val p=if zeL ps val p.grp=true then [] else p.txt ++ (if p.fld=[] then [] else val p.fld)):=fun p=>rfl;clear HFS;generalize zpJ (zeL ps val) val=F at *;go_wp2_with fail
 (try simp only[zcO])
 obtain ⟨wA,rfl⟩:∃ wo:World,wo=w2:=⟨_,rfl⟩;go_loopw [17,18] (fun o i wr=>∃ n:Nat,n<=ps.length/\i=.int .i64 n/\o=.string (bs ((ps.take n).flatMap F))/\Hid (Kept wA wr)) (fun _ i _=>ps.length - (intOf i).toNat)
 case atStart=>exact ⟨0,Nat.zero_le _,rfl,rfl,Kept.refl _⟩
 case round =>
  obtain ⟨n,hn,rfl,rfl,HKR⟩:=hrel;by_cases hlt:n<ps.length
  ·have hx:=List.getElem?_eq_getElem hlt;have HST:=Hd (HFN.out n hlt);have HPN:=Hd (HPR.out ps[n]);have HTN:=Hd (HTX.out ps[n] (List.getElem_mem hlt));have hfl:=HFL.out n;rw[HPN.out] at HST;generalize ps[n]=p at *;obtain ⟨px,pf,pg⟩:=p;simp only at HST HTN;generalize (ps.take n).flatMap F=O at *;obtain ⟨g,o,rfl,hg,-,-,-⟩:=HP2.out.cell_of n _ hx;have HX:=Hd hx;clear hx HPN;go_wp2_with fail;obtain ⟨wo,rfl⟩:∃ wo:World,wo=wr:=⟨_,rfl⟩;go_loopw [19,20] (fun d i wr=>∃ k:Nat,k<=ps.length/\i=.int .i64 k/\d=.bool (zeL (ps.take k) val pg)/\Hid (Kept wA wr)) (fun _ i _=>ps.length - (intOf i).toNat)
   case atStart=>exact ⟨0,Nat.zero_le _,rfl,by rw[HO0.out],HKR.out⟩
   case round =>
    obtain ⟨k,hk,rfl,rfl,HKQ⟩:=hrel;by_cases hlk:k<ps.length
    ·have hx:=List.getElem?_eq_getElem hlk;have HGK:=Hd (HGN.out pg k hlk);generalize ps[k]=q at *;obtain ⟨qx,qf,qg⟩:=q;simp only at HGK;generalize zeL (ps.take k) val pg=D at *;have HPQ:=Hd (HP2.out.kept HKQ.out);obtain ⟨g1,o1,ha,hg1,-,-,p2⟩:=HPQ.out.cell_of n _ HX.out;obtain ⟨rfl,rfl⟩:g=g1/\o=o1:=(by cases ha;exact ⟨rfl,rfl⟩);obtain ⟨g1,o1,ha',-,-,q1,q2⟩:=HPQ.out.cell_of k _ hx;obtain ⟨rfl,rfl⟩:g=g1/\o=o1:=(by cases ha';exact ⟨rfl,rfl⟩);simp only at p2 q1 q2;clear ha ha' hx;have hNP:(n:Int)<(ps.length:Int):=(by omega);have hKP:(k:Int)<(ps.length:Int):=(by omega);by_cases g0:0<pg
     case neg =>
      have hd:decide (0<(pg:Int))=false:=(by rw[decide_eq_false_iff_not];omega);have hd2:decide (0<pg)=false:=(by rw[decide_eq_false_iff_not];exact g0);rw[hd2,Bool.false_and,Bool.or_false] at HGK;go_wp2_with fail
      go_quiet (fail)
      all_goals
       have HKZ:=Hd (HKQ.out.trans (zaB wr nq));go_wp2_with fail;go_roundw
       case rel=>exact ⟨k+1,by omega,by go_num,by rw[HGK.out],HKZ.out⟩
       case measure=>simp [intOf];omega
     have hd:decide (0<(pg:Int))=true:=(by rw[decide_eq_true_eq];omega);have hd2:decide (0<pg)=true:=(by rw[decide_eq_true_eq];exact g0);rw[hd2,Bool.true_and] at HGK;cases hgq:(qg == pg) with
     | false =>
      have hgi:((qg:Int) == (pg:Int))=false:=(by rw[beq_eq_false_iff_ne] at hgq ⊢;omega);rw[hgq,Bool.false_and,Bool.or_false] at HGK;clear hgq;go_wp2_with fail
      go_quiet (fail)
      all_goals
       have HKZ:=Hd (HKQ.out.trans (zaB wr nq));go_wp2_with fail;go_roundw
       case rel=>exact ⟨k+1,by omega,by go_num,by rw[HGK.out],HKZ.out⟩
       case measure=>simp [intOf];omega
     | true =>
      have hgi:((qg:Int) == (pg:Int))=true:=(by rw[beq_iff_eq] at hgq ⊢;omega);rw[hgq,Bool.true_and] at HGK;cases hqf:(qf == ([]:Bs)) with
      | true =>
       obtain rfl:qf=[]:=(by simpa using hqf);have hne:(([]:Bs) != [])=false:=rfl;rw[hqf,Bool.not_true,Bool.false_and,Bool.or_false] at HGK;clear hgq hqf;go_wp2_with fail
       go_quiet (fail)
       all_goals
        have HKZ:=Hd (HKQ.out.trans (zaB wr nq));go_wp2_with fail;go_roundw
        case rel=>exact ⟨k+1,by omega,by go_num,by rw[HGK.out],HKZ.out⟩
        case measure=>simp [intOf];omega
      | false =>
       have hne:(qf == [])=false:=hqf;have hne2:(qf != [])=true:=(by rw[bne,hqf];rfl);rw[hqf,Bool.not_false,Bool.true_and] at HGK;have HVK:Hid (∀ w',Kept wr w'->Calls Tryz.prog 152 #[.string (bs qf),.agg #[.string (bs c.key),.string (bs c.type),vA,vE,vF],.agg #[.string (bs y.name),.bool y.numeric,.string (bs y.sort),.string (bs y.cite),.string (bs y.bare),.string (bs y.between),.string (bs y.begin_),.string (bs y.end_),.int .i64 y.most,vY],.string (bs c.lang),.string (bs c.suffix),.int .i64 c.number] w' fun e w''=>e=.returned (.string (bs (val qf)))/\Kept w' w''):=fun w' h =>
        HVAL.out qf w' (HA.out.kept (HKW2.out.trans (HKQ.out.trans h))) (HE.out.kept (HKW2.out.trans (HKQ.out.trans h))) (HF.out.kept (HKW2.out.trans (HKQ.out.trans h)))
       have HSAK:=Hd (HSA2.out.kept HKQ.out);have HSYK:Hid (Blk wr Y 33 (zaD vY y)):=HSY2.out.kept HKQ.out;have HCC:Hid (∀ w',Kept wr w'->(w'.cell? ⟨g,o+n * 3+2,none⟩=some (.int .i64 pg)/\w'.cell? ⟨g,o+k * 3+1,none⟩=some (.string (bs qf))/\w'.cell? ⟨g,o+k * 3+2,none⟩=some (.int .i64 qg))/\(w'.cell? ⟨S,0,none⟩=some (.string (bs c.key))/\w'.cell? ⟨S,1,none⟩=some (.string (bs c.type))/\w'.cell? ⟨S,2,none⟩=some vA/\w'.cell? ⟨S,3,none⟩=some vE/\w'.cell? ⟨S,4,none⟩=some vF)/\(w'.cell? ⟨Y,0,none⟩=some (.string (bs y.name))/\w'.cell? ⟨Y,1,none⟩=some (.bool y.numeric)/\w'.cell? ⟨Y,2,none⟩=some (.string (bs y.sort))/\w'.cell? ⟨Y,3,none⟩=some (.string (bs y.cite))/\w'.cell? ⟨Y,4,none⟩=some (.string (bs y.bare))/\w'.cell? ⟨Y,5,none⟩=some (.string (bs y.between))/\w'.cell? ⟨Y,6,none⟩=some (.string (bs y.begin_))/\w'.cell? ⟨Y,7,none⟩=some (.string (bs y.end_))/\w'.cell? ⟨Y,8,none⟩=some (.int .i64 y.most)/\w'.cell? ⟨Y,9,none⟩=some vY)/\(g<w'.heap.size/\S<w'.heap.size/\Y<w'.heap.size)/\Kept wr w'):=fun w' h =>
        ⟨⟨(h.cell (p:=⟨g,o+n * 3+2,none⟩) hg1).trans p2,(h.cell (p:=⟨g,o+k * 3+1,none⟩) hg1).trans q1,(h.cell (p:=⟨g,o+k * 3+2,none⟩) hg1).trans q2⟩,⟨(HSAK.out.kept h).cell 0 _ rfl,(HSAK.out.kept h).cell 1 _ rfl,(HSAK.out.kept h).cell 2 _ rfl,(HSAK.out.kept h).cell 3 _ rfl,(HSAK.out.kept h).cell 4 _ rfl⟩,(zcC (HSYK.out.kept h)).1,⟨Nat.lt_of_lt_of_le hg1 h.size,Nat.lt_of_lt_of_le HSAK.out.lt h.size,Nat.lt_of_lt_of_le HSYK.out.lt h.size⟩,h⟩
       obtain ⟨-,⟨s0,s1,s2,s3,s4⟩,⟨y0,y1,y2,y3,y4,y5,y6,y7,y8,y9⟩,⟨-,zS,zY⟩,-⟩:=HCC.out wr (Kept.refl _);have hkd:Kept wr wr.drew:=zaB wr 1;generalize val qf=vx at HVK HGK;clear hgq hqf HSAK HSYK;obtain ⟨bv,hbv⟩:∃ b,(vx == ([]:Bs))=b:=⟨_,rfl⟩;rw[hbv] at HGK;go_wp2_with fail
       go_region_held3 (fun w'=>(w'.cell? ⟨g,o+n * 3+2,none⟩=some (.int .i64 pg)/\w'.cell? ⟨g,o+k * 3+1,none⟩=some (.string (bs qf))/\w'.cell? ⟨g,o+k * 3+2,none⟩=some (.int .i64 qg))/\(w'.cell? ⟨S,0,none⟩=some (.string (bs c.key))/\w'.cell? ⟨S,1,none⟩=some (.string (bs c.type))/\w'.cell? ⟨S,2,none⟩=some vA/\w'.cell? ⟨S,3,none⟩=some vE/\w'.cell? ⟨S,4,none⟩=some vF)/\(w'.cell? ⟨Y,0,none⟩=some (.string (bs y.name))/\w'.cell? ⟨Y,1,none⟩=some (.bool y.numeric)/\w'.cell? ⟨Y,2,none⟩=some (.string (bs y.sort))/\w'.cell? ⟨Y,3,none⟩=some (.string (bs y.cite))/\w'.cell? ⟨Y,4,none⟩=some (.string (bs y.bare))/\w'.cell? ⟨Y,5,none⟩=some (.string (bs y.between))/\w'.cell? ⟨Y,6,none⟩=some (.string (bs y.begin_))/\w'.cell? ⟨Y,7,none⟩=some (.string (bs y.end_))/\w'.cell? ⟨Y,8,none⟩=some (.int .i64 y.most)/\w'.cell? ⟨Y,9,none⟩=some vY)/\(g<w'.heap.size/\S<w'.heap.size/\Y<w'.heap.size)/\Kept wr w')
        ((refine HCC.out _ ?_;with_reducible assumption))
        (first
         | (go_at_call 152;refine (HVK.out _ hkd).mono ?_;rintro e w5 ⟨rfl,hk5⟩;have k5:Kept wr w5:=hkd.trans hk5;clear hk5))
       all_goals
        have HK5:=Hd (HKQ.out.trans k5);clear HCC HVK hkd k5 s0 s1 s2 s3 s4 y0 y1 y2 y3 y4 y5 y6 y7 y8 y9 zS zY;cases bv with
        | false =>
         rw[Bool.or_false] at HGK;go_wp2_with fail;go_roundw
         case rel=>exact ⟨k+1,by omega,by go_num,by rw[HGK.out],HK5.out⟩
         case measure=>simp [intOf];omega
        | true =>
         rw[Bool.or_true] at HGK;go_wp2_with fail;go_roundw
         case rel=>exact ⟨k+1,by omega,by go_num,by rw[HGK.out],HK5.out⟩
         case measure=>simp [intOf];omega
    ·obtain rfl:k=ps.length:=(by omega);rw[HON.out];have HPQ:=Hd (HP2.out.kept HKQ.out);obtain ⟨g1,o1,ha,hg1,p0,p1,p2⟩:=HPQ.out.cell_of n _ HX.out;obtain ⟨rfl,rfl⟩:g=g1/\o=o1:=(by cases ha;exact ⟨rfl,rfl⟩);simp only at p0 p1 p2;have hNP:(n:Int)<(ps.length:Int):=(by omega);clear ha HPQ HX;cases hgo:zeL ps val pg with
     | true =>
      rw[hgo,if_pos rfl,List.append_nil] at HST;clear hgo;go_wp2_with fail;go_roundw
      case rel=>exact ⟨n+1,by omega,by go_num,by rw[HST.out],HKQ.out⟩
      case measure=>simp [intOf];omega
     | false =>
      rw[hgo,if_neg (by simp)] at HST;clear hgo;have htn:=HTN.out;obtain ⟨ad1,hl1⟩:=zpF (P:=Tryz.prog) O px _ 2000100000000 1 rfl hfl htn (by decide);cases hpf:(pf == ([]:Bs)) with
      | true =>
       obtain rfl:pf=[]:=(by simpa using hpf);have hne:(([]:Bs) != [])=false:=rfl;rw[if_pos rfl,List.append_nil] at HST;rw[<- HST.out] at ad1;clear hpf hl1;go_wp2_with fail;go_roundw
       case rel=>exact ⟨n+1,by omega,by go_num,rfl,HKQ.out⟩
       case measure=>simp [intOf];omega
      | false =>
       have hpn:¬ pf=[]:=(by simpa using hpf);have hne:(pf == [])=false:=hpf;have hne2:(pf != [])=true:=(by rw[bne,hpf];rfl);rw[if_neg hpn,<- List.append_assoc] at HST;have HVK:Hid (∀ w',Kept wr w'->Calls Tryz.prog 152 #[.string (bs pf),.agg #[.string (bs c.key),.string (bs c.type),vA,vE,vF],.agg #[.string (bs y.name),.bool y.numeric,.string (bs y.sort),.string (bs y.cite),.string (bs y.bare),.string (bs y.between),.string (bs y.begin_),.string (bs y.end_),.int .i64 y.most,vY],.string (bs c.lang),.string (bs c.suffix),.int .i64 c.number] w' fun e w''=>e=.returned (.string (bs (val pf)))/\Kept w' w''):=fun w' h =>
        HVAL.out pf w' (HA.out.kept (HKW2.out.trans (HKQ.out.trans h))) (HE.out.kept (HKW2.out.trans (HKQ.out.trans h))) (HF.out.kept (HKW2.out.trans (HKQ.out.trans h)))
       have HSAK:=Hd (HSA2.out.kept HKQ.out);have HSYK:Hid (Blk wr Y 33 (zaD vY y)):=HSY2.out.kept HKQ.out;have HCC:Hid (∀ w',Kept wr w'->w'.cell? ⟨g,o+n * 3+1,none⟩=some (.string (bs pf))/\(w'.cell? ⟨S,0,none⟩=some (.string (bs c.key))/\w'.cell? ⟨S,1,none⟩=some (.string (bs c.type))/\w'.cell? ⟨S,2,none⟩=some vA/\w'.cell? ⟨S,3,none⟩=some vE/\w'.cell? ⟨S,4,none⟩=some vF)/\(w'.cell? ⟨Y,0,none⟩=some (.string (bs y.name))/\w'.cell? ⟨Y,1,none⟩=some (.bool y.numeric)/\w'.cell? ⟨Y,2,none⟩=some (.string (bs y.sort))/\w'.cell? ⟨Y,3,none⟩=some (.string (bs y.cite))/\w'.cell? ⟨Y,4,none⟩=some (.string (bs y.bare))/\w'.cell? ⟨Y,5,none⟩=some (.string (bs y.between))/\w'.cell? ⟨Y,6,none⟩=some (.string (bs y.begin_))/\w'.cell? ⟨Y,7,none⟩=some (.string (bs y.end_))/\w'.cell? ⟨Y,8,none⟩=some (.int .i64 y.most)/\w'.cell? ⟨Y,9,none⟩=some vY)/\(g<w'.heap.size/\S<w'.heap.size/\Y<w'.heap.size)/\Kept wr w'):=fun w' h =>
        ⟨(h.cell (p:=⟨g,o+n * 3+1,none⟩) hg1).trans p1,⟨(HSAK.out.kept h).cell 0 _ rfl,(HSAK.out.kept h).cell 1 _ rfl,(HSAK.out.kept h).cell 2 _ rfl,(HSAK.out.kept h).cell 3 _ rfl,(HSAK.out.kept h).cell 4 _ rfl⟩,(zcC (HSYK.out.kept h)).1,⟨Nat.lt_of_lt_of_le hg1 h.size,Nat.lt_of_lt_of_le HSAK.out.lt h.size,Nat.lt_of_lt_of_le HSYK.out.lt h.size⟩,h⟩
       obtain ⟨-,⟨s0,s1,s2,s3,s4⟩,⟨y0,y1,y2,y3,y4,y5,y6,y7,y8,y9⟩,⟨-,zS,zY⟩,-⟩:=HCC.out wr (Kept.refl _);have hkd:Kept wr wr.drew:=zaB wr 1;have hvl:=HVL.out pf;generalize val pf=vx at HVK HST hvl;generalize hOX:O ++ px=OX at *;obtain ⟨ad2,-⟩:=zpF (P:=Tryz.prog) OX vx _ 2000100000001 20000000 rfl (by omega) hvl (by decide);rw[<- HST.out] at ad2;clear hpf hpn HSAK HSYK hOX hl1;go_wp2_with fail
       go_region_held3 (fun w'=>w'.cell? ⟨g,o+n * 3+1,none⟩=some (.string (bs pf))/\(w'.cell? ⟨S,0,none⟩=some (.string (bs c.key))/\w'.cell? ⟨S,1,none⟩=some (.string (bs c.type))/\w'.cell? ⟨S,2,none⟩=some vA/\w'.cell? ⟨S,3,none⟩=some vE/\w'.cell? ⟨S,4,none⟩=some vF)/\(w'.cell? ⟨Y,0,none⟩=some (.string (bs y.name))/\w'.cell? ⟨Y,1,none⟩=some (.bool y.numeric)/\w'.cell? ⟨Y,2,none⟩=some (.string (bs y.sort))/\w'.cell? ⟨Y,3,none⟩=some (.string (bs y.cite))/\w'.cell? ⟨Y,4,none⟩=some (.string (bs y.bare))/\w'.cell? ⟨Y,5,none⟩=some (.string (bs y.between))/\w'.cell? ⟨Y,6,none⟩=some (.string (bs y.begin_))/\w'.cell? ⟨Y,7,none⟩=some (.string (bs y.end_))/\w'.cell? ⟨Y,8,none⟩=some (.int .i64 y.most)/\w'.cell? ⟨Y,9,none⟩=some vY)/\(g<w'.heap.size/\S<w'.heap.size/\Y<w'.heap.size)/\Kept wr w')
        ((refine HCC.out _ ?_;with_reducible assumption))
        (first
         | (go_at_call 152;refine (HVK.out _ hkd).mono ?_;rintro e w5 ⟨rfl,hk5⟩;have k5:Kept wr w5:=hkd.trans hk5;clear hk5))
       all_goals
        have HK5:=Hd (HKQ.out.trans k5);clear HCC HVK hkd k5 s0 s1 s2 s3 s4 y0 y1 y2 y3 y4 y5 y6 y7 y8 y9 zS zY;go_wp2_with fail;go_roundw
        case rel=>exact ⟨n+1,by omega,by go_num,rfl,HK5.out⟩
        case measure=>simp [intOf];omega
  ·obtain rfl:n=ps.length:=(by omega);rw[<- HFT.out];have HK5:=Hd (HKW2.out.trans HKR.out);go_wp2_with fail;go_ret2;exact ⟨rfl,HK5.out⟩
theorem zEF:∀ k:Fin 256,(zd7 (UInt8.ofNat k.val) || zcE.contains (UInt8.ofNat k.val))=((decide (97<=k.val) && decide (k.val<=122)) || ((decide (48<=k.val) && decide (k.val<=57)) || decide (k.val=45))):=by decide +kernel
theorem zEG (b:UInt8):(zd7 b || zcE.contains b)=((decide (97<=b.toNat) && decide (b.toNat<=122)) || ((decide (48<=b.toNat) && decide (b.toNat<=57)) || decide (b.toNat=45))):=by
 have:=zEF ⟨b.toNat,b.toNat_lt⟩;simpa using this
theorem zrS {l:Bs} {m:Int} {more:Bs} (h:∀ k (hk:k<l.length),(zd7 l[k] || more.contains l[k])=true):za7 l m more=(decide (1<=(l.length:Int)) && decide ((l.length:Int)<=m)):=by
 unfold za7;have:(l.all fun b=>zd7 b || more.contains b)=true:=List.all_eq_true.2 (fun b hb=>by
  obtain ⟨k,hk,e⟩:=List.getElem_of_mem hb;rw[<- e];exact h k hk)
 rw[this,Bool.and_true];congr 1;rw[decide_eq_decide];omega
theorem zrT {l:Bs} {m:Int} {more:Bs} {k:Nat} (hk:k<l.length) (h:(zd7 l[k] || more.contains l[k])=false):za7 l m more=false:=by
 unfold za7;have:(l.all fun b=>zd7 b || more.contains b)=false:=List.all_eq_false.2 ⟨l[k],List.getElem_mem hk,by rw[h];simp⟩;rw[this];simp
theorem zs5 (l:Bs) (w:World) (hl:l.length<=9223372036854775807):Calls Tryz.prog 54 #[.string (bs l)] w fun e w'=>e=.returned (.bool (za7 l 60 zcE))/\Kept w w':=by
 have HB:Hid (∀ k (hk:k<l.length),(zd7 l[k] || zcE.contains l[k])=false->za7 l 60 zcE=false):=fun k hk h=>zrT hk h;have HO:Hid ((∀ k (hk:k<l.length),(zd7 l[k] || zcE.contains l[k])=true)->za7 l 60 zcE=(decide (1<=(l.length:Int)) && decide ((l.length:Int)<=60))):=fun h=>zrS h;generalize za7 l 60 zcE=R at *;go_enter Tryz.func54,Tryz.ntmps54;go_wp2_with fail
 go_loop [3] (fun i=>∃ k:Nat,k<=l.length/\i=.int .i64 k/\Hid (∀ j (hj:j<l.length),j<k->(zd7 l[j] || zcE.contains l[j])=true)) (fun i=>l.length - (intOf i).toNat)
 case atStart=>exact ⟨0,Nat.zero_le _,rfl,fun j hj h=>by omega⟩
 case round =>
  obtain ⟨k,hk,rfl,HN⟩:=hrel;by_cases hlt:k<l.length
  ·have i0:=zd3 (P:=Tryz.prog) (t:=9) Tryz.underlying9 l k hlt k rfl;have h80:=zgA l k;have h81:=zpW l k;have HRL:=Hd (fun w=>zkW (at8 l k) w h80 h81);have HC:Hid ((zd7 l[k] || zcE.contains l[k])=((decide (97<=at8 l k) && decide (at8 l k<=122)) || ((decide (48<=at8 l k) && decide (at8 l k<=57)) || decide (at8 l k=45)))):=by
    show _=_;rw[zEG,zbI l k hlt];have z:∀ (p q:Prop) [Decidable p] [Decidable q],(p↔q)->decide p=decide q:=fun p q _ _ h=>(by rw[decide_eq_decide];exact h);rw[z (97<=l[k].toNat) (97<=(l[k].toNat:Int)) (by omega),z (l[k].toNat<=122) ((l[k].toNat:Int)<=122) (by omega),z (48<=l[k].toNat) (48<=(l[k].toNat:Int)) (by omega),z (l[k].toNat<=57) ((l[k].toNat:Int)<=57) (by omega),z (l[k].toNat=45) ((l[k].toNat:Int)=45) (by omega)]
   have HNX:Hid ((zd7 l[k] || zcE.contains l[k])=true->∀ j (hj:j<l.length),j<k+1->(zd7 l[j] || zcE.contains l[j])=true):=fun h j hj hjk=>by
    rcases Nat.lt_or_ge j k with q|q
    ·exact HN.out j hj q
    ·obtain rfl:j=k:=(by omega);exact h
   have HBD:=Hd (HB.out k hlt);rw[HC.out] at HNX HBD;clear HC HN;generalize at8 l k=b at *;cases c1:(decide (97<=b) && decide (b<=122)) with
   | true =>
    have HS:=Hd (HNX.out (by rw[c1];rfl));rw[c1] at HRL;clear c1 HNX HBD;go_wp2_with fail;refine (HRL.out _).mono ?_;rintro e w1 ⟨rfl,rfl⟩;go_wp2_with fail
    go_round
    case rel=>exact ⟨k+1,by omega,by go_num,HS.out⟩
    case measure=>simp [intOf];omega
   | false =>
    rw[c1] at HRL HNX HBD;rw[Bool.false_or] at HNX HBD;clear c1;by_cases d1:b<48
    ·have e1:decide (48<=b)=false:=decide_eq_false (by omega);rw[e1,Bool.false_and,Bool.false_or] at HNX HBD;by_cases d3:b=45
     ·have HS:=Hd (HNX.out (decide_eq_true d3));have d3':(b == 45)=true:=beq_iff_eq.2 d3;have d3n:(b != 45)=false:=(by rw[bne,d3'];rfl);clear HNX HBD d3;go_wp2_with fail;refine (HRL.out _).mono ?_;rintro e w1 ⟨rfl,rfl⟩;go_wp2_with fail
      go_round
      case rel=>exact ⟨k+1,by omega,by go_num,HS.out⟩
      case measure=>simp [intOf];omega
     ·have HR:=Hd (HBD.out (decide_eq_false d3));have d3':(b == 45)=false:=beq_eq_false_iff_ne.2 d3;have d3n:(b != 45)=true:=(by rw[bne,d3'];rfl);clear HNX HBD;go_wp2_with fail;refine (HRL.out _).mono ?_;rintro e w1 ⟨rfl,rfl⟩;go_wp2_with fail;go_ret;exact ⟨zaO HR.out.symm,Kept.refl _⟩
    ·have e1:decide (48<=b)=true:=decide_eq_true (by omega);rw[e1,Bool.true_and] at HNX HBD;by_cases d2:57<b
     ·have e2:decide (b<=57)=false:=decide_eq_false (by omega);have d3:¬ b=45:=(by omega);have e3:decide (b=45)=false:=decide_eq_false d3;have d3':(b == 45)=false:=beq_eq_false_iff_ne.2 d3;have d3n:(b != 45)=true:=(by rw[bne,d3'];rfl);have HR:=Hd (HBD.out (by rw[e2,e3];rfl));clear HNX HBD;go_wp2_with fail;refine (HRL.out _).mono ?_;rintro e w1 ⟨rfl,rfl⟩;go_wp2_with fail;go_ret;exact ⟨zaO HR.out.symm,Kept.refl _⟩
     ·have e2:decide (b<=57)=true:=decide_eq_true (by omega);have HS:=Hd (HNX.out (by rw[e2];rfl));clear HNX HBD;go_wp2_with fail;refine (HRL.out _).mono ?_;rintro e w1 ⟨rfl,rfl⟩;go_wp2_with fail
      go_round
      case rel=>exact ⟨k+1,by omega,by go_num,HS.out⟩
      case measure=>simp [intOf];omega
  ·obtain rfl:k=l.length:=(by omega);have HR:=Hd (HO.out (fun k hk=>HN.out k hk hk));by_cases d1:1<=l.length
   ·have e1:decide (1<=(l.length:Int))=true:=decide_eq_true (by omega);by_cases d2:l.length<=60
    ·have e2:decide ((l.length:Int)<=60)=true:=decide_eq_true (by omega);rw[e1,e2] at HR;go_wp2_with fail;go_ret;exact ⟨zaO HR.out.symm,Kept.refl _⟩
    ·have e2:decide ((l.length:Int)<=60)=false:=decide_eq_false (by omega);rw[e1,e2] at HR;go_wp2_with fail;go_ret;exact ⟨zaO HR.out.symm,Kept.refl _⟩
   ·have e1:decide (1<=(l.length:Int))=false:=decide_eq_false (by omega);rw[e1,Bool.false_and] at HR;go_wp2_with fail;go_ret;exact ⟨zaO HR.out.symm,Kept.refl _⟩
theorem zs6 (l:Bs) (w:World) (hl:l.length<=9223372036854775807):Calls Tryz.prog 114 #[.string (bs l)] w fun e w'=>e=.returned (.bool (l == [42] || za7 l 20 []))/\Kept w w':=by
 have HB:Hid (∀ k (hk:k<l.length),zd7 l[k]=false->(l == [42] || za7 l 20 [])=(l == [42])):=fun k hk h=>by
  rw[zrT hk (by rw[h];rfl),Bool.or_false]
 have HO:Hid ((∀ k (hk:k<l.length),zd7 l[k]=true)->(l == [42] || za7 l 20 [])=(decide (1<=(l.length:Int)) && decide ((l.length:Int)<=20))):=fun h=>by
  rw[zrS (fun k hk=>by rw[h k hk];rfl)];have:(l == [42])=false:=by
   rw[beq_eq_false_iff_ne];rintro rfl;exact absurd (h 0 (by simp)) (by decide)
  rw[this,Bool.false_or]
 generalize (l == [42] || za7 l 20 [])=R at *;obtain ⟨bs42,H42⟩:∃ b,Hid ((l == [42])=b):=⟨_,rfl⟩;have h42:=H42.out;rw[H42.out] at HB;go_enter Tryz.func114,Tryz.ntmps114;go_wp2_with fail
 go_loop [3] (fun i=>∃ k:Nat,k<=l.length/\i=.int .i64 k/\Hid (∀ j (hj:j<l.length),j<k->zd7 l[j]=true)) (fun i=>l.length - (intOf i).toNat)
 case atStart=>exact ⟨0,Nat.zero_le _,rfl,fun j hj h=>by omega⟩
 case round =>
  obtain ⟨k,hk,rfl,HN⟩:=hrel;by_cases hlt:k<l.length
  ·have i0:=zd3 (P:=Tryz.prog) (t:=9) Tryz.underlying9 l k hlt k rfl;have h80:=zgA l k;have h81:=zpW l k;have HRL:=Hd (fun w=>zkW (at8 l k) w h80 h81);have HC:Hid (zd7 l[k]=(decide (97<=at8 l k) && decide (at8 l k<=122))):=by
    show _=_;rw[zbI l k hlt];rfl
   have HNX:Hid (zd7 l[k]=true->∀ j (hj:j<l.length),j<k+1->zd7 l[j]=true):=fun h j hj hjk=>by
    rcases Nat.lt_or_ge j k with q|q
    ·exact HN.out j hj q
    ·obtain rfl:j=k:=(by omega);exact h
   have HBD:=Hd (HB.out k hlt);rw[HC.out] at HNX HBD;clear HC HN;generalize at8 l k=b at *;cases c1:(decide (97<=b) && decide (b<=122)) with
   | true =>
    have HS:=Hd (HNX.out c1);rw[c1] at HRL;clear c1 HNX HBD;go_wp2_with fail;refine (HRL.out _).mono ?_;rintro e w1 ⟨rfl,rfl⟩;go_wp2_with fail
    go_round
    case rel=>exact ⟨k+1,by omega,by go_num,HS.out⟩
    case measure=>simp [intOf];omega
   | false =>
    have HR:=Hd (HBD.out c1);rw[c1] at HRL;clear c1 HNX HBD;go_wp2_with fail;refine (HRL.out _).mono ?_;rintro e w1 ⟨rfl,rfl⟩;go_wp2_with fail;go_ret;exact ⟨zaO HR.out.symm,Kept.refl _⟩
  ·obtain rfl:k=l.length:=(by omega);have HR:=Hd (HO.out (fun k hk=>HN.out k hk hk));by_cases d1:1<=l.length
   ·have e1:decide (1<=(l.length:Int))=true:=decide_eq_true (by omega);by_cases d2:l.length<=20
    ·have e2:decide ((l.length:Int)<=20)=true:=decide_eq_true (by omega);rw[e1,e2] at HR;go_wp2_with fail;go_ret;exact ⟨zaO HR.out.symm,Kept.refl _⟩
    ·have e2:decide ((l.length:Int)<=20)=false:=decide_eq_false (by omega);rw[e1,e2] at HR;go_wp2_with fail;go_ret;exact ⟨zaO HR.out.symm,Kept.refl _⟩
   ·have e1:decide (1<=(l.length:Int))=false:=decide_eq_false (by omega);rw[e1,Bool.false_and] at HR;go_wp2_with fail;go_ret;exact ⟨zaO HR.out.symm,Kept.refl _⟩
def WrdSt (c:UInt8) (t:Bs) (k fr:Nat) (xs:List Bs):Prop:=k<=t.length/\fr<=k/\xs=(zpU c (t.take k)).1/\(t.take k).drop fr=(zpU c (t.take k)).2
theorem WrdSt.start (c:UInt8) (t:Bs):WrdSt c t 0 0 []:=⟨Nat.zero_le _,Nat.le_refl _,by simp [zpU],by simp [zpU]⟩
theorem WrdSt.feed {c:UInt8} {t:Bs} {k fr:Nat} {xs:List Bs} (h:WrdSt c t k fr xs) (hk:k<t.length) (hb:t[k]=c):WrdSt c t (k+1) (k+1) (xs ++ [(t.drop fr).take (k - fr)])/\fr<=k:=by
 obtain ⟨h1,h2,h3,h4⟩:=h;refine ⟨⟨by omega,Nat.le_refl _,?_,?_⟩,h2⟩
 ·rw[zeF t k hk,zf9,hb];rw[show (t.drop fr).take (k - fr)=(t.take k).drop fr from by rw[List.drop_take],h4,h3];simp [zb7]
 ·rw[zeF t k hk,zf9,hb];rw[List.drop_of_length_le (by simp;omega)];simp [zb7]
theorem WrdSt.other {c:UInt8} {t:Bs} {k fr:Nat} {xs:List Bs} (h:WrdSt c t k fr xs) (hk:k<t.length) (hb:t[k]≠c):WrdSt c t (k+1) fr xs/\fr<=k:=by
 obtain ⟨h1,h2,h3,h4⟩:=h;refine ⟨⟨by omega,by omega,?_,?_⟩,h2⟩
 ·rw[zeF t k hk,zf9];simp [zb7,hb,h3]
 ·rw[zeF t k hk,zf9,List.drop_append_of_le_length (by simp;omega),h4];simp [zb7,hb]
theorem WrdSt.done {c:UInt8} {t:Bs} {fr:Nat} {xs:List Bs} (h:WrdSt c t t.length fr xs):fr<=t.length/\za4 c t=xs ++ [t.drop fr]:=by
 obtain ⟨h1,h2,h3,h4⟩:=h;rw[List.take_of_length_le (Nat.le_refl _)] at h3 h4;refine ⟨h2,?_⟩;unfold za4;rw[h3,<- h4]
theorem zrU (t:Bs) (w:World) (ht:t.length<=1100000):Calls Tryz.prog 109 #[.string (bs t)] w (SliP (za4 32 t) w):=by
 obtain ⟨i0',hi',hz0,hz1,hz2⟩:=info_parts Tryz.infoStr;go_enter Tryz.func109,Tryz.ntmps109;go_wp2_with fail;go_loopw [3,4,5] (fun v fv i wr=>∃ (k fr:Nat) (xs:List Bs),k<=t.length/\i=.int .i64 k/\fv=.int .i64 fr/\fr<=k/\xs.length<=k/\wr.ownsRow w.heap.size 9 1 v xs.length (zaH xs)/\Hid (WrdSt 32 t k fr xs)/\Kept w wr) (fun _ _ i _=>t.length - (intOf i).toNat)
 case atStart=>exact ⟨0,0,[],Nat.zero_le _,rfl,rfl,Nat.zero_le _,Nat.le_refl _,World.ownsRow_nil _ _ _ _,WrdSt.start 32 t,Kept.refl _⟩
 case round =>
  obtain ⟨k,fr,xs,hk,rfl,rfl,hfr,hxl,hown,HS,hkr⟩:=hrel;have hsz:w.heap.size<=wr.heap.size:=hkr.size;have HKR:=Hd hkr;have HOWN:=Hd hown;clear hkr hown;by_cases hlt:k<t.length
  ·have i0:=zd3 (P:=Tryz.prog) (t:=9) Tryz.underlying9 t k hlt k rfl;have HC:Hid (at8 t k=32↔t[k]=32):=(by show _↔_;rw[zbI t k hlt];exact zgB _ 32 (by decide));by_cases hb:at8 t k=32
   ·obtain ⟨hst,hfk⟩:=HS.out.feed hlt (HC.out.1 hb);have sl:=zn8 (P:=Tryz.prog) (t:=9) Tryz.underlying9 t fr k hfk (by omega) fr k rfl rfl _ rfl;have HST:=Hd hst;have hown:=HOWN.out;have hb':(at8 t k == 32)=true:=(by simpa using hb);generalize (t.drop fr).take (k - fr)=y at *;generalize at8 t k=b at *;clear hst HC hb;go_wp2_with (at_builtin;refine wpList_append_own _ rfl _ _ 29 rfl w.heap.size 9 i0' (.string ⟨#[]⟩) 1 16 Tryz.underlying29 hi' hz0 hz1 hz2 rfl (by decide) _ _ _ rfl (hown.alloc _) ⟨wr.heap.size,0,none⟩ 1 1 [.string (bs y)] rfl rfl ?_ ?_ ?_ ?_ ?_ ?_)
    ·exact zaV _ #[.string (bs y)] _ _ (by simp)
    ·intro u hu;simp at hu;subst hu;rfl
    ·unfold maxLen;omega
    ·omega
    ·simp;omega
    intro v' w2 hown2 hgrow _;have HB2:=Hd ((HKR.out.trans (zaA wr _)).trans' (zaG (hown.alloc _) hgrow (by simp;omega)));rw[<- zaT] at hown2;have HO:=Hd hown2;clear hown2 hgrow hown;go_wp2_with fail;go_roundw
    case rel=>exact ⟨k+1,k+1,xs ++ [y],by omega,by go_num,by go_num,by omega,by simp;omega,by simpa using HO.out,HST.out,HB2.out⟩
    case measure=>simp [intOf];omega
   ·obtain ⟨hst,hfk⟩:=HS.out.other hlt (fun q=>hb (HC.out.2 q));have HST:=Hd hst;have hb':(at8 t k == 32)=false:=(by simpa using hb);generalize at8 t k=b at *;clear hst HC hb;go_wp2_with fail;go_roundw
    case rel=>exact ⟨k+1,fr,xs,by omega,by go_num,rfl,by omega,by omega,HOWN.out,HST.out,HKR.out⟩
    case measure=>simp [intOf];omega
  ·obtain rfl:k=t.length:=(by omega);obtain ⟨hfl,hfin⟩:=HS.out.done;have HFIN:=Hd hfin;clear hfin;have sl:=zfM (P:=Tryz.prog) (t:=9) Tryz.underlying9 t fr hfl fr rfl _ rfl;have hown:=HOWN.out;generalize t.drop fr=y at *;go_wp2_with (at_builtin;refine wpList_append_own _ rfl _ _ 29 rfl w.heap.size 9 i0' (.string ⟨#[]⟩) 1 16 Tryz.underlying29 hi' hz0 hz1 hz2 rfl (by decide) _ _ _ rfl (hown.alloc _) ⟨wr.heap.size,0,none⟩ 1 1 [.string (bs y)] rfl rfl ?_ ?_ ?_ ?_ ?_ ?_)
   ·exact zaV _ #[.string (bs y)] _ _ (by simp)
   ·intro u hu;simp at hu;subst hu;rfl
   ·unfold maxLen;omega
   ·omega
   ·simp;omega
   intro v' w2 hown2 hgrow _;have HB2:=Hd ((HKR.out.trans (zaA wr _)).trans' (zaG (hown.alloc _) hgrow (by simp;omega)));rw[<- zaT] at hown2;have hown3:w2.ownsRow w.heap.size 9 1 v' (xs ++ [y]).length (zaH (xs ++ [y])):=(by simpa using hown2);have HO:Hid (Strs w2 v' (xs ++ [y])):=Strs.own hown3;clear hown3;clear hown2 hgrow hown;go_wp2_with fail;go_ret;exact ⟨_,rfl,by rw[HFIN.out];exact HO.out,HB2.out⟩
theorem zrV (l:Bs) (w:World) (hl:l.length<=100000):Calls Tryz.prog 55 #[.string (bs l)] w fun e w'=>e=.returned (.int .i64 (zm2 l))/\Kept w w':=by
 by_cases h0:l=[]
 ·subst h0;go_enter Tryz.func55,Tryz.ntmps55;go_wp2_with fail;go_ret;exact ⟨rfl,Kept.refl _⟩
 have h0':(l == ([]:Bs))=false:=(by simpa using h0);have HE:Hid (zm2 l=if (za4 32 l).all zoR=false then 13 else if zBl (za4 32 l)=true then 7 else 0):=by
  show _=_;unfold zm2;rw[if_neg h0]
 have HSP:=Hd (zrU l w (by omega));unfold SliP at HSP;have hwl:(za4 32 l).length<=100001:=by
  rw[zc5];have:=List.count_le_length (a:=(32:UInt8)) (l:=l);omega
 generalize zm2 l=R at *;generalize za4 32 l=ws at *;go_enter Tryz.func55,Tryz.ntmps55;go_wp2_with fail;refine HSP.out.mono ?_;rintro e w1 ⟨v,rfl,hsv,hk1⟩;have HK1:=Hd hk1;have HS1:=Hd hsv;obtain ⟨aw,cw,rfl,hcw⟩:=hsv.form;clear HSP hsv hk1;go_wp2_with fail;go_loopw [4] (fun i wr=>∃ k:Nat,k<=ws.length/\i=.int .i64 k/\Hid (∀ j (hj:j<ws.length),j<k->zoR ws[j]=true)/\Hid (Kept w1 wr)) (fun i _=>ws.length - (intOf i).toNat)
 case atStart=>exact ⟨0,Nat.zero_le _,rfl,fun j hj h=>by omega,Kept.refl _⟩
 case round =>
  obtain ⟨k,hk,rfl,HN,HKR⟩:=hrel;by_cases hlt:k<ws.length
  ·have hx:=List.getElem?_eq_getElem hlt;obtain ⟨g,o,he,hg,d0,-,-⟩:=(HS1.out.kept HKR.out).cell_of k _ hx;cases he;have HNX:Hid (zoR ws[k]=true->∀ j (hj:j<ws.length),j<k+1->zoR ws[j]=true):=by
    intro h j hj hjk;rcases Nat.lt_or_ge j k with q|q
    ·exact HN.out j hj q
    ·obtain rfl:j=k:=(by omega);exact h
   have HBAD:Hid (zoR ws[k]=false->R=13):=by
    intro h;rw[HE.out,if_pos];exact List.all_eq_false.2 ⟨ws[k],List.getElem_mem hlt,by rw[h];simp⟩
   clear hx;generalize ws[k]=x at *;cases hs:zoR x with
   | false =>
    have HR:=Hd (HBAD.out hs);obtain ⟨c1,c2,c3,c4⟩:=zqV hs;clear hs;unfold zdH at c1;unfold zdY at c2;unfold zlQ at c3;unfold zvN at c4;go_wp2_with fail;go_ret;exact ⟨zaK HR.out.symm,HK1.out.trans HKR.out⟩
   | true =>
    have HNO:=Hd (HNX.out hs);have hc:=zoS hs;clear hs HBAD HNX HN;rcases hc with rfl|rfl|rfl|rfl
    all_goals
     (first|unfold zdH at d0|unfold zdY at d0|unfold zlQ at d0|unfold zvN at d0)
     go_wp2_with fail;go_roundw
     case rel=>exact ⟨k+1,by omega,by go_num,HNO.out,HKR.out⟩
     case measure=>simp [intOf];omega
  ·obtain rfl:k=ws.length:=(by omega);have HE2:Hid (R=if zBl ws=true then 7 else 0):=by
    show _=_;rw[HE.out,if_neg];rw[Bool.not_eq_false];refine List.all_eq_true.2 (fun b hb=>?_);obtain ⟨j,hj,e⟩:=List.getElem_of_mem hb;rw[<- e];exact HN.out j hj hj
   have HD1:Hid (∀ i (hi:i<ws.length),(ws.take i).contains ws[i]=true->R=7):=fun i hi h=>(by rw[HE2.out,if_pos (ztY hi h)]);have HD2:Hid ((∀ i (hi:i<ws.length),(ws.take i).contains ws[i]=false)->R=0):=fun h=>(by rw[HE2.out,zyQ h];rfl);have HKS:=Hd HKR.out;clear HE HE2 HN HKR hlt;go_wp2_with fail;go_loopw [5] (fun i wr=>∃ k:Nat,k<=ws.length/\i=.int .i64 k/\Hid (∀ j (hj:j<ws.length),j<k->(ws.take j).contains ws[j]=false)/\Hid (Kept w1 wr)) (fun i _=>ws.length - (intOf i).toNat)
   case atStart=>exact ⟨0,Nat.zero_le _,rfl,fun j hj h=>by omega,HKS.out⟩
   case round =>
    clear HKS;obtain ⟨k,hk,rfl,HN,HKR⟩:=hrel;by_cases hlt:k<ws.length
    ·have hx:=List.getElem?_eq_getElem hlt;obtain ⟨g,o,he,hg,d0,-,-⟩:=(HS1.out.kept HKR.out).cell_of k _ hx;cases he;have HNX:Hid ((ws.take k).contains ws[k]=false->∀ j (hj:j<ws.length),j<k+1->(ws.take j).contains ws[j]=false):=by
      intro h j hj hjk;rcases Nat.lt_or_ge j k with q|q
      ·exact HN.out j hj q
      ·obtain rfl:j=k:=(by omega);exact h
     have HYES:=Hd (HD1.out k hlt);have HHIT:Hid (∀ i (hi:i<ws.length),i<k->ws[i]=ws[k]->(ws.take k).contains ws[k]=true):=fun i hi hik e=>by
      rw[List.contains_iff_mem,<- e];exact List.mem_take_iff_getElem.2 ⟨i,by omega,rfl⟩
     have HMISS:Hid ((∀ i (hi:i<ws.length),i<k->ws[i]≠ws[k])->(ws.take k).contains ws[k]=false):=fun h=>by
      rw[Bool.eq_false_iff];intro q;rw[List.contains_iff_mem] at q;obtain ⟨i,hi,e⟩:=List.mem_take_iff_getElem.1 q;exact h i (by omega) (by omega) e
     have hk1:(k:Int)<=(ws.length:Int):=(by omega);have HKS:=Hd HKR.out;have HX:=Hd hx;clear hx HN HKR;generalize ws[k]=x at *;go_wp2_with fail;go_loopw [6] (fun i wr=>∃ m:Nat,m<=k/\i=.int .i64 m/\Hid (∀ j (hj:j<ws.length),j<m->ws[j]≠x)/\Hid (Kept w1 wr)) (fun i _=>k - (intOf i).toNat)
     case atStart=>exact ⟨0,Nat.zero_le _,rfl,fun j hj h=>by omega,HKS.out⟩
     case round =>
      clear HKS hg d0;obtain ⟨m,hm,rfl,HM,HKR⟩:=hrel;by_cases hlt2:m<k
      ·have hml:m<ws.length:=(by omega);have hy:=List.getElem?_eq_getElem hml;obtain ⟨g,o,he,hg,d0,-,-⟩:=(HS1.out.kept HKR.out).cell_of m _ hy;cases he;obtain ⟨g2,o2,he2,hg2,dx,-,-⟩:=(HS1.out.kept HKR.out).cell_of k x HX.out;cases he2;have HH:=Hd (HHIT.out m hml hlt2);have HMX:Hid (ws[m]≠x->∀ j (hj:j<ws.length),j<m+1->ws[j]≠x):=by
        intro h j hj hjk;rcases Nat.lt_or_ge j m with q|q
        ·exact HM.out j hj q
        ·obtain rfl:j=m:=(by omega);exact h
       clear hy HM;generalize ws[m]=y at *;by_cases hxy:y=x
       ·have HR:=Hd (HYES.out (HH.out hxy));subst hxy;go_wp2_with fail
        go_quiet (fail)
        all_goals
         have HKZ:=Hd (HKR.out.trans (zaB wr nq));go_wp2_with fail;go_ret;exact ⟨zaK HR.out.symm,HK1.out.trans HKZ.out⟩
       ·have hxy':(y == x)=false:=(by simpa using hxy);have HNO:=Hd (HMX.out hxy);clear hxy;go_wp2_with fail
        go_quiet (fail)
        all_goals
         have HKZ:=Hd (HKR.out.trans (zaB wr nq));go_wp2_with fail;go_roundw
         case rel=>exact ⟨m+1,by omega,by go_num,HNO.out,HKZ.out⟩
         case measure=>simp [intOf];omega
      ·obtain rfl:m=k:=(by omega);have HNO:=Hd (HNX.out (HMISS.out (fun i hi hik=>HM.out i hi hik)));clear HM;go_wp2_with fail;go_roundw
       case rel=>exact ⟨m+1,by omega,by go_num,HNO.out,HKR.out⟩
       case measure=>simp [intOf];omega
    ·obtain rfl:k=ws.length:=(by omega);have HR:=Hd (HD2.out (fun i hi=>HN.out i hi hi));go_wp2_with fail;go_ret;exact ⟨zaK HR.out.symm,HK1.out.trans HKR.out⟩
end Go.Proofs.YtmcoomlkbgiboaaGreatDoor
