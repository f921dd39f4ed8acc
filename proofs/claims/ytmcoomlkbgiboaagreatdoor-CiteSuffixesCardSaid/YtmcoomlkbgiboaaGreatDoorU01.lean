/- Plain helpers of this seat's proofs: endings, bytes of a string, worlds that keep what was there. No condition. -/
import Derived.Test.YtmcoomlkbgiboaaGreatDoorProg
import Derived.WalkKit
import Derived.Deep.QuietTactic
import Derived.BigQuiet
import Derived.Lib.Hide
import Derived.Lib.Split
import Derived.Lib.Join
import Derived.Lib.IndexMore
import Derived.Lib.IndexAny
import Derived.Lib.Bytealg
import Derived.Shelf.Strings.Split
import Derived.Lib.Strings
import Derived.Lib.SmallJoins
set_option linter.all false
namespace Go.Proofs.YtmcoomlkbgiboaaGreatDoor
open Go.RowKit
theorem Hd {p:Prop} (h:p):Hid p:=h
theorem zaK {k:IntKind} {a b:Int} (h:a=b):Ending.returned (.int k a)=.returned (.int k b):=by rw[h]
theorem zaO {a b:Bool} (h:a=b):Ending.returned (.bool a)=.returned (.bool b):=by rw[h]
theorem zAQ {k l:IntKind} {a b c d:Int} (h:a=b) (h':c=d):Ending.returned (.tuple #[.int k a,.int l c])=.returned (.tuple #[.int k b,.int l d]):=by rw[h,h']
abbrev Kept (w w':World):Prop:=Below w.heap.size w w'
theorem Kept.refl (w:World):Kept w w:=Below.refl _ _
theorem Kept.trans {a b c:World} (h:Kept a b) (k:Kept b c):Kept a c:=Below.trans h (Below.mono k h.size)
theorem zaB (w:World) (n:Nat):Kept w (w.drewN n):=⟨rfl,rfl,rfl,Nat.le_refl _,fun _ _=>rfl⟩
theorem zaA (w:World) (o:Obj):Kept w (w.alloc o):=(Below.refl _ _).alloc (Nat.le_refl _) _
def Gnd (w:World):Prop:=∃ m,w.cell? ⟨2,0,none⟩=some (.int .i64 m)
theorem Gnd.lt {w:World} (h:Gnd w):2<w.heap.size:=by
 obtain ⟨m,h⟩:=h;rcases Nat.lt_or_ge 2 w.heap.size with h'|h'
 ·exact h'
 ·simp [World.cell?,Array.getElem?_eq_none h'] at h
theorem Gnd.kept {w w':World} (h:Gnd w) (k:Kept w w'):Gnd w':=by
 have hl:=h.lt;obtain ⟨m,h⟩:=h;exact ⟨m,(k.cell (p:=⟨2,0,none⟩) hl).trans h⟩
def zaC (s:ByteArray) (i:Nat):Int:=((s.data.toList.getD i 0).toNat:Int)
theorem zw5 (s:ByteArray) (i:Nat) (h:i<s.size):zaC s i=((s[i]'h).toNat:Int):=by
 have h':i<s.data.toList.length:=(by simpa using h);unfold zaC;rw[List.getD_eq_getElem?_getD,List.getElem?_eq_getElem h'];rfl
theorem zaM (s:ByteArray) (i:Nat):0<=zaC s i:=by unfold zaC;omega
theorem zaL (s:ByteArray) (i:Nat):zaC s i<256:=by unfold zaC;have:=(s.data.toList.getD i 0).toNat_lt;omega
theorem zgN (s:ByteArray) (i:Nat):zaC s i=((s.get! i).toNat:Int):=by
 unfold zaC;rcases Nat.lt_or_ge i s.size with h|h
 ·have h':i<s.data.toList.length:=(by simpa using h);rw[List.getD_eq_getElem?_getD,List.getElem?_eq_getElem h'];have e:s.get! i=s[i]'h:=by
   simp [ByteArray.get!,getElem!_pos,h];rfl
  rw[e];rfl
 ·have h':s.data.toList.length<=i:=(by simpa using h);rw[List.getD_eq_getElem?_getD,List.getElem?_eq_none h'];have e:s.get! i=0:=by
   simp only[ByteArray.get!];rw[getElem!_neg]
   ·rfl
   ·have:s.size=s.data.size:=rfl;omega
  rw[e];rfl
theorem za3 {P:Program} {t:TypeId} (h:P.underlying t=some .string) (s:ByteArray) (i:Nat) (hi:i<s.size) (j:Int) (hj:j=i) (w:World) :
  (Instr.index t (.string s) (.int .i64 j)).run P w=.ok (.int .u8 (zaC s i)) w:=by
 subst hj;rw[run_index_string w t s .i64 i h,dif_pos ⟨by omega,by omega⟩,zw5 s i hi];simp
theorem zaU {w w':World} {base:Nat} {e:TypeId} {size:Nat} {v:Value} {n:Nat} {xs:List Value} (h:w.ownsRow base e size v n xs) (k:Kept w w'):w'.ownsRow base e size v n xs:=by
 obtain ⟨h1,h2⟩:=h;refine ⟨h1,?_⟩;rcases h2 with h2|⟨g,cap,cur,hv,hg,hh,r⟩
 ·exact Or.inl h2
 ·have hlt:g<w.heap.size:=by
   rcases Nat.lt_or_ge g w.heap.size with q|q
   ·exact q
   ·rw[Array.getElem?_eq_none q] at hh;cases hh
  exact Or.inr ⟨g,cap,cur,hv,hg,by rw[k.block g hlt];exact hh,r⟩
theorem ztI {w:World} {base base':Nat} {e:TypeId} {size:Nat} {v:Value} {n:Nat} {xs:List Value} (h:w.ownsRow base e size v n xs) (k:base'<=base):w.ownsRow base' e size v n xs:=by
 obtain ⟨h1,h2⟩:=h;refine ⟨h1,?_⟩;rcases h2 with h2|⟨g,cap,cur,hv,hg,r⟩
 ·exact Or.inl h2
 ·exact Or.inr ⟨g,cap,cur,hv,Nat.le_trans k hg,r⟩
theorem za1 {w:World} {base:Nat} {e:TypeId} {size:Nat} {v:Value} {n:Nat} {xs:List Value} (h:w.ownsRow base e size v n xs):∃ a c,v=.slice a n c/\n<=c/\c<=maxLen/\(0<n->∃ g,a=some ⟨g,0,none⟩/\base<=g/\g<w.heap.size/\∀ j u,xs[j]? = some u->w.cell? ⟨g,j,none⟩=some u):=by
 have hl:=h.1;rcases h.2 with ⟨rfl,rfl⟩|⟨g,cap,cur,rfl,hg,hh,hc,hm,r⟩
 ·exact ⟨none,0,rfl,Nat.le_refl _,by unfold maxLen;omega,fun q=>by omega⟩
 ·refine ⟨_,cap,rfl,hc,hm,fun q=>⟨g,rfl,hg,?_,fun j u hu=>?_⟩⟩
  ·rcases Nat.lt_or_ge g w.heap.size with q|q
   ·exact q
   ·rw[Array.getElem?_eq_none q] at hh;cases hh
  ·have hj:j<n * size:=by
    rcases Nat.lt_or_ge j (n * size) with q|q
    ·exact q
    ·rw[List.getElem?_eq_none (by omega)] at hu;cases hu
   rw[h.cellAt j hj,hu]
theorem zaG {w w':World} {base:Nat} {e:TypeId} {size:Nat} {v:Value} {n:Nat} {xs:List Value} (h:w.ownsRow base e size v n xs) (hg:w.grownBy w' v.ownBlock) (hb:base<=w.heap.size):Below base w w' :=
 Below.grown (Below.refl _ _) hg hb (fun k hk=>(h.lt k hk).1)
theorem Kept.trans' {a b c:World} (h:Kept a b) (k:Below a.heap.size b c):Kept a c:=Below.trans h k
theorem zaV (w:World) (arr:Array Value) (e:TypeId) (g:Nat) (hg:g=w.heap.size):∀ j u,arr.toList[j]? = some u->(w.alloc (.cells arr e)).cell? ((⟨g,0,none⟩:Addr).add j)=some u:=by
 intro j u hu;have hh:(w.alloc (.cells arr e)).heap[g]? = some (.cells arr e (0,0)):=(by rw[hg];exact heap_alloc_new w _);have e1:((⟨g,0,none⟩:Addr).add j)=⟨g,j,none⟩:=(by unfold Addr.add;split <;> simp_all);rw[e1];simp only[World.cell?,hh];rw[Array.getElem?_toList] at hu;simpa using hu
theorem zuL {w w':World} {row:Option Nat} (hg:w.grownBy w' row) (g o:Nat) (hlt:g<w.heap.size) (hne:some g≠row):w'.cell? ⟨g,o,none⟩=w.cell? ⟨g,o,none⟩ :=
 World.cell?_of_block (a:=⟨g,o,none⟩) (hg.block g hlt hne)
theorem zEn {w:World} {base:Nat} {e:TypeId} {size:Nat} {v:Value} {n:Nat} {xs:List Value} (h:w.ownsRow base e size v n xs) (g:Nat) (hg:w.heap.size<=g):some g≠v.ownBlock:=fun q=>by
 have:=(h.lt g q.symm).2;omega
end Go.Proofs.YtmcoomlkbgiboaaGreatDoor
namespace Go.Proofs.YtmcoomlkbgiboaaGreatDoor
abbrev Bs:=List UInt8
theorem zn7 {α:Type} {P:List α->Prop} (h0:P []) (h1:∀ l b,P l->P (l ++ [b])) (l:List α):P l:=by
 have:∀ r:List α,P r.reverse:=by
  intro r
  induction r with
  | nil=>exact h0
  | cons a r ih=>rw[List.reverse_cons];exact h1 _ _ ih
 have:=this l.reverse
 rwa [List.reverse_reverse] at this
def zb7 (c:UInt8) (st:List Bs × Bs) (b:UInt8):List Bs × Bs:=if b=c then (st.1 ++ [st.2],[]) else (st.1,st.2 ++ [b])
def zpU (c:UInt8) (l:Bs):List Bs × Bs:=l.foldl (zb7 c) ([],[])
def za4 (c:UInt8) (l:Bs):List Bs:=(zpU c l).1 ++ [(zpU c l).2]
theorem zf9 (c:UInt8) (l:Bs) (b:UInt8):zpU c (l ++ [b])=zb7 c (zpU c l) b:=by simp [zpU]
theorem zk0 (c:UInt8):∀ (l:Bs) (j:List Bs) (p:Bs),c ∉ l->l.foldl (zb7 c) (j,p)=(j,p ++ l)
 | [],j,p,_=>by simp
 | b :: l,j,p,h=>by
  have hb:b≠c:=fun e=>h (by simp [e]);have hl:c ∉ l:=fun e=>h (by simp [e]);rw[List.foldl_cons,show zb7 c (j,p) b=(j,p ++ [b]) from by simp [zb7,hb],zk0 c l j (p ++ [b]) hl];simp
theorem zeW (c:UInt8):∀ (l:Bs) (j:List Bs) (p:Bs),l.foldl (zb7 c) (j,p)=(j ++ (l.foldl (zb7 c) ([],p)).1,(l.foldl (zb7 c) ([],p)).2)
 | [],j,p=>by simp
 | b :: l,j,p=>by
  by_cases hb:b=c
  ·rw[List.foldl_cons,List.foldl_cons,show zb7 c (j,p) b=(j ++ [p],[]) from by simp [zb7,hb],show zb7 c ([],p) b=([p],[]) from by simp [zb7,hb],
    zeW c l (j ++ [p]) [],zeW c l [p] []]
   simp
  ·rw[List.foldl_cons,List.foldl_cons,show zb7 c (j,p) b=(j,p ++ [b]) from by simp [zb7,hb],show zb7 c ([],p) b=([],p ++ [b]) from by simp [zb7,hb],
    zeW c l j (p ++ [b])]
theorem zfK (c:UInt8) (l:Bs) (h:c ∉ l):za4 c l=[l]:=by
 unfold za4 zpU;rw[zk0 c l [] [] h];simp
theorem zk1 (c:UInt8) (a r:Bs) (h:c ∉ a):za4 c (a ++ c :: r)=a :: za4 c r:=by
 unfold za4 zpU;rw[List.foldl_append,zk0 c a [] [] h,List.foldl_cons,show zb7 c ([],[] ++ a) c=([a],[]) from by simp [zb7],zeW c r [a] []];simp
theorem zhW:∀ (l:Bs) (c:UInt8),(Lib.index l [c] = -1/\c ∉ l)\/∃ i:Nat,Lib.index l [c]=i/\i<l.length/\c ∉ l.take i/\l=l.take i ++ c :: l.drop (i+1)
 | [],c=>.inl ⟨rfl,by simp⟩
 | b :: l,c=>by
  unfold Lib.index;by_cases hb:c=b
  ·subst hb;right;exact ⟨0,by simp,by simp,by simp,by simp⟩
  ·have e:[c].isPrefixOf (b :: l)=false:=(by simp [List.isPrefixOf,hb]);rw[e];simp only[Bool.false_eq_true,if_false];rcases zhW l c with ⟨h1,h2⟩|⟨i,h1,h2,h3,h4⟩
   ·left;exact ⟨by simp [h1],by simp [hb,h2]⟩
   ·right;have hne:¬ ((i:Int) == -1)=true:=(by simp only[beq_iff_eq];omega);refine ⟨i+1,by rw[h1,if_neg hne];omega,by simp;omega,by simp [hb,h3],?_⟩;simp only[List.take_succ_cons,List.drop_succ_cons,List.cons_append];rw[<- h4]
theorem zm7 (c:UInt8):∀ (k:Nat) (l:Bs),l.count c<=k->Lib.splitK [c] 0 k l=za4 c l
 | 0,l,h=>by
  have h0:c ∉ l:=(by intro q;have:=List.count_pos_iff.2 q;omega);rw[zfK c l h0];rfl
 | k+1,l,h=>by
  unfold Lib.splitK;rcases zhW l c with ⟨h1,h2⟩|⟨i,h1,h2,h3,h4⟩
  ·rw[h1,zfK c l h2];rfl
  ·have hne:¬ ((i:Int) == -1)=true:=(by simp only[beq_iff_eq];omega);rw[h1,if_neg hne];have hc:l.count c=1+(l.drop (i+1)).count c:=by
    conv=>lhs;rw[h4]
    rw[List.count_append,List.count_cons,List.count_eq_zero.2 h3];simp;omega
   have:=zm7 c k (l.drop (i+1)) (by omega);simp only[Int.toNat_natCast,Nat.add_zero,List.length_cons,List.length_nil,Nat.zero_add];rw[this]
   conv=>rhs;rw[h4]
   rw[zk1 c _ _ h3]
theorem zc5 (c:UInt8) (l:Bs):(za4 c l).length=l.count c+1:=by
 unfold za4;have:∀ (l:Bs) (j:List Bs) (p:Bs),(l.foldl (zb7 c) (j,p)).1.length=j.length+l.count c:=by
  intro l
  induction l with
  | nil=>simp
  | cons b l ih =>
   intro j p;rw[List.foldl_cons,List.count_cons];by_cases hb:b=c
   ·rw[show zb7 c (j,p) b=(j ++ [p],[]) from by simp [zb7,hb],ih];simp [hb];omega
   ·rw[show zb7 c (j,p) b=(j,p ++ [b]) from by simp [zb7,hb],ih];simp [hb]
 rw[List.length_append];have h:=this l [] [];simp only[List.length_nil,Nat.zero_add,List.length_cons] at h ⊢;unfold zpU;omega
theorem zhX (c:UInt8):∀ (f:Nat) (l:Bs),l.length<f->Lib.countFrom [c] f l=l.count c
 | 0,l,h=>by omega
 | f+1,l,h=>by
  unfold Lib.countFrom;rcases zhW l c with ⟨h1,h2⟩|⟨i,h1,h2,h3,h4⟩
  ·rw[h1,List.count_eq_zero.2 h2];rfl
  ·have hne:¬ ((i:Int) == -1)=true:=(by simp only[beq_iff_eq];omega);rw[h1,if_neg hne];have hc:l.count c=1+(l.drop (i+1)).count c:=by
    conv=>lhs;rw[h4]
    rw[List.count_append,List.count_cons,List.count_eq_zero.2 h3];simp;omega
   have:=zhX c f (l.drop (i+1)) (by simp;omega);simp only[Int.toNat_natCast,List.length_cons,List.length_nil,Nat.zero_add];rw[this,hc]
theorem zpV (l:Bs) (c:UInt8):Lib.count l [c]=l.count c:=zhX c _ _ (by omega)
theorem zuM (s:ByteArray) (c:UInt8):(Lib.splitB ⟨#[c]⟩ 0 (Lib.countB s ⟨#[c]⟩) s).map (·.data.toList)=za4 c s.data.toList:=by
 rw[Lib.splitB_data];refine zm7 c _ _ ?_;show _<=Lib.count s.data.toList [c];rw[zpV];exact Nat.le_refl _
theorem zuN (s:ByteArray) (c:UInt8):Lib.countB s ⟨#[c]⟩=s.data.toList.count c:=zpV _ _
def zw6 (l:Bs):List Bs:=(za4 32 l).filter (fun x=>!x.isEmpty)
def zk2 (l:Bs):Bs:=Lib.join (zw6 l) [32]
theorem zw7 (xs:List Bs) (x:Bs):Lib.join (xs ++ [x]) [32]=(if xs=[] then [] else Lib.join xs [32] ++ [32]) ++ x:=by
 cases xs with
 | nil=>simp [Lib.join_one]
 | cons a r =>
  rw[List.cons_append,Lib.join_cons,Lib.join_cons];simp [Lib.joinTail]
theorem zg9 (cs:Bs):∀ l:Bs,Lib.containsAny l cs=l.any (fun b=>cs.contains b)
 | []=>rfl
 | b :: l=>by
  have ih:=zg9 cs l;unfold Lib.containsAny at ih ⊢;unfold Lib.indexAny;have hg:=Lib.indexAny_ge cs l;rw[List.any_cons];by_cases h:cs.contains b=true
  ·rw[h];simp
  ·have h':cs.contains b=false:=(by simpa using h);rw[h',<- ih];by_cases q:Lib.indexAny l cs = -1
   ·rw[q];rfl
   ·have q':(Lib.indexAny l cs == -1)=false:=(by simpa using q);simp only[q',Bool.false_or,Bool.false_eq_true,if_false,decide_eq_decide];omega
theorem za9 (c:UInt8):∀ l:Bs,decide (0<=Lib.indexByte l c)=l.contains c
 | []=>rfl
 | b :: l=>by
  have ih:=za9 c l;unfold Lib.indexByte;have hg:=Lib.indexByte_ge l c;rw[List.contains_cons,<- ih];by_cases h:b=c
  ·subst h;simp
  ·have h1:(b == c)=false:=(by simpa using h);have h2:(c == b)=false:=(by simpa using fun e=>h e.symm);rw[h1,h2];by_cases q:Lib.indexByte l c = -1
   ·rw[q];rfl
   ·have q':(Lib.indexByte l c == -1)=false:=(by simpa using q);simp only[q',Bool.false_or,Bool.false_eq_true,if_false,decide_eq_decide];omega
end Go.Proofs.YtmcoomlkbgiboaaGreatDoor
namespace Go.Proofs.YtmcoomlkbgiboaaGreatDoor
open Go.RowKit
def bs (l:Bs):ByteArray:=⟨l.toArray⟩
@[simp] theorem zcO (l:Bs):ByteArray.mk l.toArray=bs l:=rfl
@[simp] theorem zAR:ByteArray.empty=bs []:=rfl
@[simp] theorem zfL (l:Bs):(bs l).data.toList=l:=rfl
@[simp] theorem zeE (l:Bs):(bs l).size=l.length:=rfl
@[simp] theorem zEo (l:Bs):(bs l).toList=l:=ByteArray.toList_eq _
theorem zFb (s:ByteArray):∃ l,s=bs l:=⟨s.data.toList,rfl⟩
theorem zCN {s:ByteArray} {l:Bs} (h:s.data.toList=l):s=bs l:=by subst h;rfl
@[simp] theorem zk3 (a b:Bs):bs a ++ bs b=bs (a ++ b):=zCN (by rw[Joins.data_append];rfl)
@[simp] theorem zuO (l:Bs) (i j:Nat):(bs l).extract i j=bs ((l.drop i).take (j - i)):=zCN (by rw[Lib.extract_data];rfl)
@[simp] theorem zFq (a b:Bs):bs a=bs b↔a=b:=⟨fun h=>by have:=congrArg (fun s:ByteArray=>s.data.toList) h;simpa using this,fun h=>by rw[h]⟩
theorem zb1 {a b:Bs} (h:a=b):Ending.returned (.string (bs a))=.returned (.string (bs b)):=by rw[h]
def at8 (l:Bs) (i:Nat):Int:=((l.getD i 0).toNat:Int)
theorem zbG (l:Bs) (i:Nat):zaC (bs l) i=at8 l i:=rfl
theorem zgA (l:Bs) (i:Nat):0<=at8 l i:=by unfold at8;omega
theorem zpW (l:Bs) (i:Nat):at8 l i<256:=zaL (bs l) i
theorem zbI (l:Bs) (i:Nat) (h:i<l.length):at8 l i=((l[i]'h).toNat:Int):=by unfold at8;rw[List.getD_eq_getElem?_getD,List.getElem?_eq_getElem h];rfl
theorem zd3 {P:Program} {t:TypeId} (h:P.underlying t=some .string) (l:Bs) (i:Nat) (hi:i<l.length) (j:Int) (hj:j=i) (w:World) :
  (Instr.index t (.string (bs l)) (.int .i64 j)).run P w=.ok (.int .u8 (at8 l i)) w:=za3 h (bs l) i hi j hj w
theorem zn8 {P:Program} {t:TypeId} (h:P.underlying t=some .string) (l:Bs) (i j:Nat) (hi:i<=j) (hj:j<=l.length) (a b:Int) (ha:a=i) (hb:b=j) (x:Bs) (hx:(l.drop i).take (j - i)=x) (w:World) :
  (Instr.slice t (.string (bs l)) (some (.int .i64 a)) (some (.int .i64 b)) none).run P w=.ok (.string (bs x)) w:=by
 subst ha hb hx;rw[run_slice_string w t (bs l) .i64 .i64 i j h (by omega) (by omega) (by simp;omega)];simp
theorem zfM {P:Program} {t:TypeId} (h:P.underlying t=some .string) (l:Bs) (i:Nat) (hi:i<=l.length) (a:Int) (ha:a=i) (x:Bs) (hx:l.drop i=x) (w:World) :
  (Instr.slice t (.string (bs l)) (some (.int .i64 a)) none none).run P w=.ok (.string (bs x)) w:=by
 subst ha hx;rw[run_slice_string_l w t (bs l) h .i64 i (by omega) (by simp;omega)];simp only[zeE,zuO,Int.toNat_natCast];rw[List.take_of_length_le (by simp)]
theorem zkH {P:Program} {t:TypeId} (h:P.underlying t=some .string) (l:Bs) (j:Nat) (hj:j<=l.length) (b:Int) (hb:b=j) (x:Bs) (hx:l.take j=x) (w:World) :
  (Instr.slice t (.string (bs l)) none (some (.int .i64 b)) none).run P w=.ok (.string (bs x)) w:=by
 subst hb hx;rw[run_slice_string_h w t (bs l) h .i64 j (by omega) (by simp;omega)];simp
theorem zeF (l:Bs) (k:Nat) (h:k<l.length):l.take (k+1)=l.take k ++ [l[k]]:=List.take_succ_eq_append_getElem h
theorem zC9 (l:Bs) (k:Nat) (h:k<l.length):(l.drop k).take (k+1 - k)=[l[k]]:=by
 rw[show k+1 - k=1 from by omega,List.drop_eq_getElem_cons h];rfl
theorem zgB (x:UInt8) (n:Nat) (h:n<256):((x.toNat:Int)=n)↔x=UInt8.ofNat n:=by
 constructor
 ·intro q;apply UInt8.toNat_inj.1;rw[UInt8.toNat_ofNat',Nat.mod_eq_of_lt h];omega
 ·rintro rfl;rw[UInt8.toNat_ofNat',Nat.mod_eq_of_lt h]
end Go.Proofs.YtmcoomlkbgiboaaGreatDoor
