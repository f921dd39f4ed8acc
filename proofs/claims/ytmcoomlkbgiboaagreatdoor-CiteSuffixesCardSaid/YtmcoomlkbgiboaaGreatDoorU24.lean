/- What sources are sorted by, in plain Lean. No condition. -/
import Derived.Test.YtmcoomlkbgiboaaGreatDoorU23
import Derived.Test.YtmcoomlkbgiboaaGreatDoorU07
import Derived.Test.YtmcoomlkbgiboaaGreatDoorU11
import Derived.Test.YtmcoomlkbgiboaaGreatDoorU06
import Derived.Test.YtmcoomlkbgiboaaGreatDoorU16
set_option linter.all false
namespace Go.Proofs.YtmcoomlkbgiboaaGreatDoor
open Go.RowKit
structure KeyT where
 author:Bs
 year:Int
 title:Bs
 key:Bs
def zo0:Bs:=[97,117,116,104,111,114]
def zBz:Bs:=[121,101,97,114]
def zhC:Bs:=[116,105,116,108,101]
def zfC (c:ColT) (w:Bs) (x y:KeyT):Int:=if w=zo0 then zm0 c x.author y.author else if w=zBz then zEl x.year y.year else if w=zhC then zm0 c x.title y.title else zCU x.key y.key
def cfW (c:ColT) (ws:List Bs):KeyT->KeyT->Int:=zEy (ws.map (zfC c))
theorem zjD {α:Type} {f:α->α->Int} (h1:∀ x y,f y x = - f x y) (h2:∀ x y z,f x y<=0->f y z<=0->f x z<=0):PreO f:=⟨fun x y=>by have:=h1 x y;omega,h2⟩
theorem zy5 (c:ColT) (w:Bs):PreO (zfC c w):=by
 by_cases h1:w=zo0
 ·have e:zfC c w=fun x y=>zm0 c x.author y.author:=(by funext x y;unfold zfC;rw[if_pos h1]);rw[e];exact zjD (fun x y=>zt6 c _ _) (fun x y z=>znR c _ _ _)
 by_cases h2:w=zBz
 ·have e:zfC c w=fun x y=>zEl x.year y.year:=(by funext x y;unfold zfC;rw[if_neg h1,if_pos h2]);rw[e];exact zBx _
 by_cases h3:w=zhC
 ·have e:zfC c w=fun x y=>zm0 c x.title y.title:=(by funext x y;unfold zfC;rw[if_neg h1,if_neg h2,if_pos h3]);rw[e];exact zjD (fun x y=>zt6 c _ _) (fun x y z=>znR c _ _ _)
 ·have e:zfC c w=fun x y=>zCU x.key y.key:=(by funext x y;unfold zfC;rw[if_neg h1,if_neg h2,if_neg h3]);rw[e];exact zjD (fun x y=>ziN _ _) (fun x y z=>zg1 _ _ _)
theorem zy6 (c:ColT) (ws:List Bs):PreO (cfW c ws):=zt5 _ (fun f hf=>by
 obtain ⟨w,_,rfl⟩:=List.mem_map.1 hf;exact zy5 c w)
theorem zBA (c:ColT) (ws:List Bs) (x:KeyT):cfW c ws x x=0:=by
 have h:=(zy6 c ws).anti x x;omega
theorem zBB (c:ColT) (w:Bs) (ws:List Bs) (x y:KeyT):cfW c (w :: ws) x y=if zfC c w x y≠0 then zfC c w x y else cfW c ws x y:=rfl
theorem zBC {c:ColT} {ws:List Bs} {k:Nat} {w:Bs} (h:ws[k]? = some w) (x y:KeyT):cfW c (ws.drop k) x y=if zfC c w x y≠0 then zfC c w x y else cfW c (ws.drop (k+1)) x y:=by
 obtain ⟨hk,rfl⟩:=List.getElem?_eq_some_iff.1 h;rw[List.drop_eq_getElem_cons hk,zBB]
theorem zDx {α β:Type} {f:β->β->Int} (g:α->β) (h:PreO f):PreO (fun x y=>f (g x) (g y)):=⟨fun x y=>h.anti (g x) (g y),fun x y z=>h.trans (g x) (g y) (g z)⟩
theorem zBD {α β:Type} (cf:β->β->Int) (g:α->β) (out:List α) (x:α):(zt4 (fun a b=>cf (g a) (g b)) out x).map g=zt4 cf (out.map g) (g x):=by
 have key:∀ l:List α,(zBw (fun a b=>cf (g a) (g b)) x l).map g=zBw cf (g x) (l.map g):=by
  intro l
  induction l with
  | nil=>rfl
  | cons y ys ih =>
   show (if 0<cf (g y) (g x) then y :: zBw (fun a b=>cf (g a) (g b)) x ys else x :: y :: ys).map g=if 0<cf (g y) (g x) then g y :: zBw cf (g x) (ys.map g) else g x :: g y :: ys.map g
   split
   ·rw[List.map_cons,ih]
   ·rfl
 unfold zt4;rw[List.map_reverse,key,List.map_reverse]
theorem zy7 {α β:Type} (cf:β->β->Int) (g:α->β) (l:List α):(zkD (fun a b=>cf (g a) (g b)) l).map g=zkD cf (l.map g):=by
 have key:∀ (l out:List α),(l.foldl (zt4 (fun a b=>cf (g a) (g b))) out).map g=(l.map g).foldl (zt4 cf) (out.map g):=by
  intro l
  induction l with
  | nil=>intro out;rfl
  | cons x l ih=>intro out;rw[List.foldl_cons,ih,zBD,List.map_cons,List.foldl_cons]
 exact key l []
theorem Perss.sam {S:Nat->Prop} {w w':World} {v:Value} {xs:List P4} (h:Perss w v xs) (hi:InB S v xs.length) (k:Sam S w w'):Perss w' v xs:=by
 obtain ⟨a,c,hv,hc,h3⟩:=h;refine ⟨a,c,hv,hc,fun q=>?_⟩;obtain ⟨g,o,ha,hg,hcell⟩:=h3 q;have hs:S g:=hi q g (by rw[hv,ha];rfl);refine ⟨g,o,ha,k.lt hg hs,fun j x hx=>?_⟩;rw[k.cell _ hg hs,k.cell _ hg hs,k.cell _ hg hs,k.cell _ hg hs];exact hcell j x hx
theorem Perss.ltB {w:World} {v:Value} {xs:List P4} (h:Perss w v xs):InB (fun g=>g<w.heap.size) v xs.length:=fun q g hg=>by
 obtain ⟨a,c,hv,hc,h3⟩:=h;obtain ⟨g',o,ha,hgg,_⟩:=h3 q;rw[hv,ha] at hg;have:g'=g:=(by simpa [Value.ownBlock] using hg);omega
theorem Perss.shape {w:World} {v:Value} {xs:List P4} (h:Perss w v xs):∃ a c,v=.slice a xs.length c/\xs.length<=c:=by obtain ⟨a,c,e,l,_⟩:=h;exact ⟨a,c,e,l⟩
theorem Perss.at_ {w:World} {a:Option Addr} {n c:Nat} {ps:List P4} (h:Perss w (.slice a n c) ps) (j:Nat) (q:P4) (hq:ps[j]? = some q) :
  ∃ g o,a=some ⟨g,o,none⟩/\g<w.heap.size/\w.cell? ⟨g,o+j * 4,none⟩=some (.string (bs q.1))/\w.cell? ⟨g,o+j * 4+1,none⟩=some (.string (bs q.2.1))/\w.cell? ⟨g,o+j * 4+2,none⟩=some (.string (bs q.2.2.1))/\w.cell? ⟨g,o+j * 4+3,none⟩=some (.string (bs q.2.2.2)):=by
 obtain ⟨a',c',hv,hc,h3⟩:=h;obtain ⟨rfl,rfl,rfl⟩:=Value.slice.inj hv;obtain ⟨hk,_⟩:=List.getElem?_eq_some_iff.1 hq;obtain ⟨g,o,ha,hg,hcell⟩:=h3 (by omega);exact ⟨g,o,ha,hg,hcell j q hq⟩
def SrcL (S:Nat->Prop) (w:World) (vA vE vF:Value) (x:SrcT):Prop:=(Perss w vA x.author/\InB S vA x.author.length)/\(Perss w vE x.editor/\InB S vE x.editor.length)/\(Prs w vF x.fields/\InB S vF x.fields.length)
theorem SrcL.sam {S S':Nat->Prop} {w w':World} {vA vE vF:Value} {x:SrcT} (h:SrcL S w vA vE vF x) (k:Sam S w w') (hS:∀ g,g<w.heap.size->S g->S' g):SrcL S' w' vA vE vF x:=by
 obtain ⟨⟨a1,a2⟩,⟨b1,b2⟩,c1,c2⟩:=h;exact ⟨⟨a1.sam a2 k,a2.mono fun g hg q r=>hS g (a1.ltB q g hg) r⟩,⟨b1.sam b2 k,b2.mono fun g hg q r=>hS g (b1.ltB q g hg) r⟩,c1.sam c2 k,c2.mono fun g hg q r=>hS g (c1.ltB q g hg) r⟩
def SrcK (S:Nat->Prop) (w:World) (cs:List Value) (x:SrcT):Prop:=∃ vA vE vF,cs=[.string (bs x.key),.string (bs x.type),vA,vE,vF]/\SrcL S w vA vE vF x
theorem zy8:ReadK SrcK:=⟨fun ⟨vA,vE,vF,h1,h2⟩ k hS=>⟨vA,vE,vF,h1,h2.sam k hS⟩,fun ⟨vA,vE,vF,h1,h2⟩ u hu=>by
 obtain ⟨⟨a1,_⟩,⟨b1,_⟩,c1,_⟩:=h2;obtain ⟨a,c,rfl,_⟩:=a1;obtain ⟨a,c,rfl,_⟩:=b1;obtain ⟨a,c,rfl,_⟩:=c1;rw[h1] at hu;simp only[List.mem_cons,List.not_mem_nil,or_false] at hu;rcases hu with rfl|rfl|rfl|rfl|rfl <;> rfl⟩
structure SorT where
 k:KeyT
 src:SrcT
def zEm (x:SorT) (vA vE vF:Value):List Value:=[.string (bs x.k.author),.int .i64 x.k.year,.string (bs x.k.title),.string (bs x.k.key),.string (bs x.src.key),.string (bs x.src.type),vA,vE,vF]
def SorK (S:Nat->Prop) (w:World) (cs:List Value) (x:SorT):Prop:=∃ vA vE vF,cs=zEm x vA vE vF/\SrcL S w vA vE vF x.src
theorem zpR:ReadK SorK:=⟨fun ⟨vA,vE,vF,h1,h2⟩ k hS=>⟨vA,vE,vF,h1,h2.sam k hS⟩,fun ⟨vA,vE,vF,h1,h2⟩ u hu=>by
 obtain ⟨⟨a1,_⟩,⟨b1,_⟩,c1,_⟩:=h2;obtain ⟨a,c,rfl,_⟩:=a1;obtain ⟨a,c,rfl,_⟩:=b1;obtain ⟨a,c,rfl,_⟩:=c1;rw[h1] at hu;simp only[zEm,List.mem_cons,List.not_mem_nil,or_false] at hu;rcases hu with rfl|rfl|rfl|rfl|rfl|rfl|rfl|rfl|rfl <;> rfl⟩
theorem Strs.outO {base:Nat} {A:Nat->Prop} {w:World} {v:Value} {xs:List Bs} (h:OutG StrK 1 A base 9 w v xs):Strs w v xs:=by
 obtain ⟨css,h1,h2,ho,h4⟩:=h;have e:css.flatten=zaH xs:=by
  clear ho
  induction css generalizing xs with
  | nil=>cases xs with
   | nil=>rfl
   | cons _ _=>simp at h1
  | cons c css ih =>
   cases xs with
   | nil=>simp at h1
   | cons x xs =>
    have hc:=h4 0 c x rfl rfl;unfold StrK at hc;subst hc;have:=ih (xs:=xs) (by simpa using h1) (fun cs h=>h2 cs (List.mem_cons_of_mem _ h)) (fun j cs x hc hx=>h4 (j+1) cs x (by simpa using hc) (by simpa using hx));rw[List.flatten_cons,this];rfl
 rw[e] at ho;exact Strs.own ho
theorem zjE {p:Prop} (h:Hid p):p:=h.out
def zdR (x:Bs):Bs:=zoC (dec (bs x) 0).1 ++ [46]
def ini:Bs->Bool->Bool->Bool->Bs
 | [],_,_,_=>[]
 | b :: r,bg,iw,sm =>
  if b=32 then ini r true false sm
  else if b=45 then ini r true iw sm
  else if bg then (if iw then [45] else if sm then [32] else []) ++ zdR (b :: r) ++ ini r false true true
  else ini r false iw sm
theorem zdM (b:UInt8) (r:Bs) (bg iw sm:Bool):ini (b :: r) bg iw sm=if b=32 then ini r true false sm else if b=45 then ini r true iw sm
  else if bg then (if iw then [45] else if sm then [32] else []) ++ zdR (b :: r) ++ ini r false true true else ini r false iw sm:=rfl
def zbF (c:UInt8) (l:Bs):List Bs:=(za4 c l).filter zeG
def zkR (w:Bs):Bs:=Lib.join ((zbF 45 w).map zdR) [45]
def zc8 (g:Bs):Bs:=zbS ((zbF 32 g).map zkR)
theorem zt7 (x t:Bs) (iw sm:Bool) (h1:(32:UInt8) ∉ x) (h2:(45:UInt8) ∉ x):ini (x ++ t) false iw sm=ini t false iw sm:=by
 induction x with
 | nil=>rfl
 | cons b x ih =>
  rw[List.cons_append,zdM,if_neg (fun q=>h1 (by rw[q];simp)),if_neg (fun q=>h2 (by rw[q];simp))];rw[if_neg (by simp)];exact ih (fun q=>h1 (by simp [q])) (fun q=>h2 (by simp [q]))
def zy9 (iw sm:Bool):Bs:=if iw then [45] else if sm then [32] else []
theorem zq6 (x t:Bs) (iw sm:Bool) (hx:x≠[]) (h1:(32:UInt8) ∉ x) (h2:(45:UInt8) ∉ x) (ht:t=[]\/at8 t 0<128) :
  ini (x ++ t) true iw sm=zy9 iw sm ++ zdR x ++ ini t false true true:=by
 cases x with
 | nil=>exact absurd rfl hx
 | cons b x =>
  have hd:zdR ((b :: x) ++ t)=zdR (b :: x):=(by unfold zdR;rw[zyI (b :: x) t (by simp) ht]);rw[List.cons_append] at hd ⊢;rw[zdM,if_neg (fun q=>h1 (by rw[q];simp)),if_neg (fun q=>h2 (by rw[q];simp)),if_pos rfl,hd,
   zt7 x t true true (fun q=>h1 (by simp [q])) (fun q=>h2 (by simp [q]))]
  rfl
def TailOK (t:Bs):Prop:=t=[]\/∃ r,t=32 :: r
theorem TailOK.low {t:Bs} (h:TailOK t):t=[]\/at8 t 0<128:=by
 rcases h with rfl|⟨r,rfl⟩
 ·exact .inl rfl
 ·exact .inr (by show ((32:UInt8).toNat:Int)<128;decide)
theorem TailOK.same {t:Bs} (h:TailOK t) (bg iw sm:Bool):ini t bg iw sm=ini t true false sm:=by
 rcases h with rfl|⟨r,rfl⟩
 ·rfl
 ·rw[zdM,zdM];simp
theorem zlU (c:UInt8) (l:Bs):c ∉ l\/∃ a r,l=a ++ c :: r/\c ∉ a/\r.length<l.length:=by
 rcases zhW l c with ⟨_,h⟩|⟨i,_,h2,h3,h4⟩
 ·exact .inl h
 ·exact .inr ⟨l.take i,l.drop (i+1),h4,h3,by simp;omega⟩
def zeS (iw sm:Bool) (ps:List Bs):Bs:=if ps=[] then [] else zy9 iw sm ++ Lib.join (ps.map zdR) [45]
theorem zo1 (sep x:Bs) (r:List Bs):Lib.join (x :: r) sep=x ++ (if r=[] then [] else sep ++ Lib.join r sep):=by
 cases r with
 | nil=>simp [Lib.join_one]
 | cons y r =>
  rw[Lib.join_cons,Lib.join_cons];simp [Lib.joinTail]
theorem zsY (c:UInt8) (l:Bs) (h:c ∉ l):zbF c l=if l=[] then [] else [l]:=by
 unfold zbF;rw[zfK c l h];by_cases q:l=[]
 ·subst q;rfl
 ·rw[if_neg q];simp [zeG,q]
theorem zzA (c:UInt8) (a r:Bs) (h:c ∉ a):zbF c (a ++ c :: r)=(if a=[] then [] else [a]) ++ zbF c r:=by
 unfold zbF;rw[zk1 c a r h,List.filter_cons];by_cases q:a=[]
 ·subst q;rfl
 ·rw[if_neg q,if_pos (by simp [zeG,q])];rfl
theorem zkS:∀ (n:Nat) (w t:Bs) (iw sm:Bool),w.length<=n->(32:UInt8) ∉ w->TailOK t ->
  ini (w ++ t) true iw sm=zeS iw sm (zbF 45 w) ++ ini t true false (sm || !(zbF 45 w).isEmpty)
 | n,w,t,iw,sm,hn,h32,ht=>by
  rcases zlU 45 w with h|⟨a,r,rfl,ha,hr⟩
  ·rw[zsY 45 w h];by_cases q:w=[]
   ·subst q;rw[if_pos rfl,List.nil_append,ht.same];simp [zeS]
   ·rw[if_neg q,zq6 w t iw sm q h32 h ht.low,ht.same];simp [zeS,Lib.join_one]
  ·cases n with
   | zero=>simp at hn
   | succ n =>
    have h32a:(32:UInt8) ∉ a:=fun q=>h32 (by simp [q]);have h32r:(32:UInt8) ∉ r:=fun q=>h32 (by simp [q]);rw[zzA 45 a r ha];by_cases q:a=[]
    ·subst q;rw[if_pos rfl,List.nil_append,List.nil_append,List.cons_append,zdM,if_neg (by decide),if_pos rfl];exact zkS n r t iw sm (by simp at hr hn;omega) h32r ht
    ·rw[if_neg q,List.append_assoc,List.cons_append,zq6 a (45 :: (r ++ t)) iw sm q h32a ha (.inr (by show ((45:UInt8).toNat:Int)<128;decide)),
      zdM,if_neg (by decide),if_pos rfl,zkS n r t true true (by simp at hr hn;omega) h32r ht]
     by_cases z:zbF 45 r=[]
     ·rw[z];simp [zeS,Lib.join_one]
     ·have e1:zeS true true (zbF 45 r)=[45] ++ Lib.join ((zbF 45 r).map zdR) [45]:=(by unfold zeS;rw[if_neg z];rfl);have e2:zeS iw sm ([a] ++ zbF 45 r)=zy9 iw sm ++ (zdR a ++ ([45] ++ Lib.join ((zbF 45 r).map zdR) [45])):=by
       unfold zeS;rw[if_neg (by simp),List.singleton_append,List.map_cons,zo1,if_neg (by simpa using z)]
      rw[e1,e2];simp
theorem zzB (x:Bs):zdR x≠[]:=by unfold zdR;simp
theorem zkT (w:Bs):zkR w=[]↔zbF 45 w=[]:=by
 unfold zkR;constructor
 ·intro h;cases hp:zbF 45 w with
  | nil=>rfl
  | cons a r =>
   rw[hp,List.map_cons,zo1] at h;simp [zzB] at h
 ·intro h;rw[h];rfl
def zEz (g:Bs):List Bs:=((za4 32 g).map zkR).filter zeG
def zhD (sm:Bool) (ws:List Bs):Bs:=if ws=[] then [] else zy9 false sm ++ Lib.join ws [32]
theorem zj2 (sm:Bool) (w:Bs):zeS false sm (zbF 45 w)=zhD sm ([zkR w].filter zeG):=by
 unfold zeS zhD;by_cases h:zbF 45 w=[]
 ·rw[if_pos h,(zkT w).2 h];rfl
 ·have hn:zkR w≠[]:=fun q=>h ((zkT w).1 q);have e:[zkR w].filter zeG=[zkR w]:=(by simp [zeG,hn]);rw[if_neg h,e,if_neg (by simp),Lib.join_one];rfl
theorem zzC:∀ (n:Nat) (g:Bs) (sm:Bool),g.length<=n->ini g true false sm=zhD sm (zEz g)
 | n,g,sm,hn=>by
  rcases zlU 32 g with h|⟨a,r,rfl,ha,hr⟩
  ·have:=zkS g.length g [] false sm (Nat.le_refl _) h (.inl rfl);rw[List.append_nil] at this;rw[this,zj2];unfold zEz;rw[zfK 32 g h];simp [ini]
  ·cases n with
   | zero=>simp at hn
   | succ n =>
    rw[zkS a.length a (32 :: r) false sm (Nat.le_refl _) ha (.inr ⟨r,rfl⟩),zdM,if_pos rfl,zzC n r _ (by simp at hr hn;omega),zj2];unfold zEz;rw[zk1 32 a r ha,List.map_cons,List.filter_cons (x:=zkR a) (xs:=(za4 32 r).map zkR)];by_cases h:zbF 45 a=[]
    ·have e:zkR a=[]:=(zkT a).2 h;have e2:(zbF 45 a).isEmpty=true:=(by simp [h]);rw[e,e2,if_neg (by simp [zeG])];simp [zhD,zeG]
    ·have hn:zkR a≠[]:=fun q=>h ((zkT a).1 q);have e2:(zbF 45 a).isEmpty=false:=(by simpa using h);have e:[zkR a].filter zeG=[zkR a]:=(by simp [zeG,hn]);rw[e,e2,if_pos (by simp [zeG,hn])];generalize ((za4 32 r).map zkR).filter zeG=ws;have e3:zhD sm [zkR a]=zy9 false sm ++ zkR a:=(by unfold zhD;rw[if_neg (by simp),Lib.join_one]);have e4:zhD sm (zkR a :: ws)=zy9 false sm ++ (zkR a ++ (if ws=[] then [] else [32] ++ Lib.join ws [32])):=(by unfold zhD;rw[if_neg (by simp),zo1]);rw[e3,e4];unfold zhD;by_cases z:ws=[]
     ·rw[if_pos z,if_pos z];simp
     ·rw[if_neg z,if_neg z];simp [zy9]
theorem zj3 (g:Bs):zc8 g=ini g true false false:=by
 rw[zzC g.length g false (Nat.le_refl _)];unfold zc8 zbS zhD zbF;have e:∀ xs:List Bs,((xs.filter zeG).map zkR).filter zeG=(xs.map zkR).filter zeG:=by
  intro xs
  induction xs with
  | nil=>rfl
  | cons a r ih =>
   rw[List.filter_cons,List.map_cons,List.filter_cons (x:=zkR a)];by_cases q:a=[]
   ·subst q;have:zkR []=[]:=rfl;rw[this,if_neg (by simp [zeG]),if_neg (by simp [zeG]),ih]
   ·rw[if_pos (by simp [zeG,q]),List.map_cons,List.filter_cons (x:=zkR a),ih]
 rw[e];by_cases z:zEz g=[]
 ·rw[if_pos z];unfold zEz at z;rw[z];rfl
 ·rw[if_neg z];rfl
end Go.Proofs.YtmcoomlkbgiboaaGreatDoor
