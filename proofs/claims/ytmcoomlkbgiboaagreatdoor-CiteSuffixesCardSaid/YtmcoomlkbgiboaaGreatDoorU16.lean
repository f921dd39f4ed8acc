/- A range over a text beside a row of the call's own. No condition. -/
import Derived.Test.YtmcoomlkbgiboaaGreatDoorU05
import Derived.Test.YtmcoomlkbgiboaaGreatDoorU15
import Derived.Test.YtmcoomlkbgiboaaGreatDoorU06
import Derived.Test.YtmcoomlkbgiboaaGreatDoorU13
import Derived.Test.YtmcoomlkbgiboaaGreatDoorU04
import Derived.BigQuiet
set_option linter.all false
namespace Go.Proofs.YtmcoomlkbgiboaaGreatDoor
open Go.RowKit
theorem zhM {w:World} {base:Nat} {e:TypeId} {size:Nat} {v:Value} {n:Nat} {xs:List Value} {k p:Nat} {s:ByteArray} (h:w.ownsRow base e size v n xs) (hit:w.heap[k]? = some (.stringIter s p)):some k≠v.ownBlock:=by
 rcases h.2 with ⟨rfl,_⟩|⟨g,cap,cur,rfl,_,hh,_⟩
 ·simp [Value.ownBlock]
 ·intro q;have:k=g:=(by simpa [Value.ownBlock] using q);subst this;rw[hit] at hh;cases hh
theorem zlM (w:World) (k:Nat) (s:ByteArray) (p:Nat):Only (fun i=>i=k) w (w.iterAt k s p) :=
 ⟨rfl,rfl,rfl,by simp [World.iterAt],fun i _ hs=>by simp [World.iterAt,Array.getElem?_setIfInBounds,Ne.symm hs]⟩
theorem zhN {w:World} {base:Nat} {e:TypeId} {size:Nat} {v:Value} {n:Nat} {xs:List Value} {k p:Nat} {s:ByteArray} (h:w.ownsRow base e size v n xs) (hit:w.heap[k]? = some (.stringIter s p)) (s':ByteArray) (p':Nat):(w.iterAt k s' p').ownsRow base e size v n xs :=
 (zlM w k s' p').own h (fun g hg e=>zhM h hit (by rw[hg,e]))
theorem zqR (l:Bs) (i k:Nat) (a b:Int):zaI (bs (l.drop i)) k a b=zaI (bs l) (i+k) a b:=by
 unfold zaI;have e:zaC (bs (l.drop i)) k=zaC (bs l) (i+k):=by
  rw[zbG,zbG];unfold at8;simp
 rw[e];have:((bs (l.drop i)).size<=k)↔((bs l).size<=i+k):=(by simp;omega);simp only[this]
theorem zqS (l:Bs) (i:Nat):dec (bs (l.drop i)) 0=dec (bs l) i:=by
 have e:zaC (bs (l.drop i)) 0=zaC (bs l) i:=(by rw[zbG,zbG];unfold at8;simp);unfold dec zhI zsC;rw[e];simp only[zqR,Nat.zero_add]
theorem ztV (x t:Bs) (k:Nat) (h:k<x.length):at8 (x ++ t) k=at8 x k:=by
 unfold at8;rw[List.getD_eq_getElem?_getD,List.getD_eq_getElem?_getD,List.getElem?_append_left h]
theorem zyH (x t:Bs):at8 (x ++ t) x.length=at8 t 0:=by
 unfold at8;rw[List.getD_eq_getElem?_getD,List.getD_eq_getElem?_getD,List.getElem?_append_right (Nat.le_refl _)];simp
theorem zyI (x t:Bs) (hx:0<x.length) (ht:t=[]\/at8 t 0<128):dec (bs (x ++ t)) 0=dec (bs x) 0:=by
 have e0:zaC (bs (x ++ t)) 0=zaC (bs x) 0:=(by rw[zbG,zbG];exact ztV x t 0 hx);have A:∀ k a b,k<x.length->zaI (bs (x ++ t)) k a b=zaI (bs x) k a b:=by
  intro k a b h;unfold zaI;rw[zbG,zbG,ztV x t k h];have:((bs (x ++ t)).size<=k)↔((bs x).size<=k):=(by simp;omega);simp only[this]
 have B:∀ k a b,k=x.length->128<=a->zaI (bs (x ++ t)) k a b = -1:=by
  intro k a b h ha;subst h;unfold zaI;rw[if_pos];rcases ht with rfl|ht
  ·left;simp
  ·right;left;rw[zbG,zyH];omega
 have C:∀ k a b,x.length<=k->zaI (bs x) k a b = -1:=by
  intro k a b h;unfold zaI;rw[if_pos (.inl (by simpa using h))]
 have hl3:128<=zfO (zaC (bs x) 0):=(by unfold zfO;split <;> omega);have hl4:128<=zfI (zaC (bs x) 0):=(by unfold zfI;split <;> omega);unfold dec zhI zsC;rw[e0];simp only[Nat.zero_add];rcases (show x.length=1\/x.length=2\/x.length=3\/4<=x.length by omega) with h|h|h|h
 ·simp only[B 1 _ _ h.symm (Int.le_refl _),B 1 _ _ h.symm hl3,B 1 _ _ h.symm hl4,C 1 _ _ (by omega)];simp
 ·simp only[A 1 _ _ (by omega),B 2 _ _ h.symm (Int.le_refl _),C 2 _ _ (by omega)];simp
 ·simp only[A 1 _ _ (by omega),A 2 _ _ (by omega),B 3 _ _ h.symm (Int.le_refl _),C 3 _ _ (by omega)]
 ·simp only[A 1 _ _ (by omega),A 2 _ _ (by omega),A 3 _ _ (by omega)]
theorem zvL (x:Bs) (m k:Nat) (hk:x.length - k<=m):zb5 (bs x) k=zbQ (bs (x.drop k)):=by
 induction m generalizing x k with
 | zero =>
  rw[zb8 _ _ (by simp;omega)];unfold zbQ;rw[zb8 _ _ (by simp;omega)]
 | succ m ihm =>
  by_cases hkx:k<x.length
  ·have hbx:=za6 (bs x) k (by simpa using hkx);unfold zbQ;rw[zdP _ _ (by simpa using hkx),zdP (bs (x.drop k)) 0 (by simp;omega),zqS,Nat.zero_add];congr 1;rw[ihm x _ (by omega),ihm (x.drop k) _ (by simp;omega),List.drop_drop]
  ·rw[zb8 _ _ (by simpa using hkx)];unfold zbQ;rw[zb8 _ _ (by simp;omega)]
theorem zi9 (l:Bs) (h:0<l.length):zbQ (bs l)=(zcI (dec (bs l) 0) && zbQ (bs (l.drop (dec (bs l) 0).2.toNat))):=by
 rw[<- zvL l _ _ (Nat.le_refl _)]
 conv=>lhs;unfold zbQ
 rw[zdP _ _ (by simpa using h),Nat.zero_add]
theorem zqT:zbQ (bs [])=true:=zb8 _ _ (by simp)
theorem zBf (c:UInt8) (hc:32<=(c.toNat:Int)/\(c.toNat:Int)<127) (b:Bs):∀ (n:Nat) (a:Bs),a.length<=n->zbQ (bs (a ++ c :: b))=(zbQ (bs a) && zbQ (bs b)):=by
 intro n
 induction n with
 | zero =>
  intro a ha;obtain rfl:a=[]:=List.length_eq_zero_iff.1 (by omega);rw[List.nil_append,zi9 (c :: b) (by simp),zqT];have e0:zaC (bs (c :: b)) 0=(c.toNat:Int):=rfl;have e:dec (bs (c :: b)) 0=((c.toNat:Int),1):=(by unfold dec;rw[e0,if_pos (by omega)]);rw[e];have g:zcI ((c.toNat:Int),1)=true:=by
   have h1:zeH (c.toNat:Int)=true:=(by unfold zeH;simp;omega);have h2:((c.toNat:Int) == 65533)=false:=(by rw[beq_eq_false_iff_ne];omega);simp only[zcI,h1,h2];rfl
  rw[g];rfl
 | succ n ih =>
  intro a ha;by_cases h0:a=[]
  ·exact (show a.length<=n->_ from ih a) (by simp [h0])
  ·have hl:=List.length_pos_iff.2 h0;have hb:=za6 (bs a) 0 (by simpa using hl);rw[zi9 (a ++ c :: b) (by simp;omega),zi9 a hl,zyI a (c :: b) hl (.inr (by show ((c.toNat:Int))<128;omega))];simp only[zeE] at hb;have e:(a ++ c :: b).drop (dec (bs a) 0).2.toNat=a.drop (dec (bs a) 0).2.toNat ++ c :: b:=List.drop_append_of_le_length (by omega);rw[e,ih _ (by simp;omega),Bool.and_assoc]
theorem ztW:zhJ []=true:=by unfold zhJ;rw[zqT];rfl
theorem zDn (c:UInt8) (hc:32<=(c.toNat:Int)/\(c.toNat:Int)<127) (a b:Bs):zhJ (a ++ c :: b)=(zhJ a && zhJ b):=by
 unfold zhJ;rw[zBf c hc b _ a (Nat.le_refl _)];have hne:(10 == c)=false:=by
  rw[beq_eq_false_iff_ne];rintro rfl;simp at hc
 have e:(a ++ c :: b).contains 10=(a.contains 10 || b.contains 10):=by
  rw[List.contains_append,List.contains_cons,hne];simp
 rw[e];cases zbQ (bs a) <;> cases zbQ (bs b) <;> cases a.contains 10 <;> cases b.contains 10 <;> rfl
theorem zBg (a x:Bs) (h:∀ b∈a,32<=(b.toNat:Int)/\(b.toNat:Int)<127):zhJ (a ++ x)=zhJ x:=by
 induction a with
 | nil=>rfl
 | cons b a ih =>
  have:=zDn b (h b (by simp)) [] (a ++ x);rw[List.nil_append,ztW,Bool.true_and] at this;rw[List.cons_append,this];exact ih (fun c hc=>h c (by simp [hc]))
theorem zBh (a:Bs) (h:∀ b∈a,32<=(b.toNat:Int)/\(b.toNat:Int)<127):zhJ a=true:=by
 have:=zBg a [] h;rw[List.append_nil,ztW] at this;exact this
def IntsP (xs:List Int) (w:World) (e:Ending) (w':World):Prop:=∃ v,e=.returned v/\Ints w' v xs/\Kept w w'
end Go.Proofs.YtmcoomlkbgiboaaGreatDoor
