/- Plain helpers of this seat's proofs: endings, bytes of a string, worlds that keep what was there. No condition. -/
import Derived.Test.YtmcoomlkbgiboaaGreatDoorProg
import Derived.WalkKit
import Derived.Deep.QuietTactic
import Derived.BigQuiet
import Derived.Lib.Hide
import Derived.Lib.Split
import Derived.Lib.Join
import Derived.Lib.IndexMore
import Derived.Lib.IndexAny
import Derived.Lib.Bytealg
import Derived.Shelf.Strings.Split

set_option linter.all false
namespace Go.Proofs.YtmcoomlkbgiboaaGreatDoor
open Go.RowKit

theorem ret_int {k:IntKind} {a b:Int} (h:a=b):Ending.returned (.int k a)=.returned (.int k b):=by rw [h]
theorem ret_bool {a b:Bool} (h:a=b):Ending.returned (.bool a)=.returned (.bool b):=by rw [h]
theorem ret_ints {k l:IntKind} {a b c d:Int} (h:a=b) (h':c=d):Ending.returned (.tuple #[.int k a,.int l c])=.returned (.tuple #[.int k b,.int l d]):=by rw [h,h']
/-- Everything that was there is as it was. -/
abbrev Kept (w w':World):Prop:=Below w.heap.size w w'
theorem Kept.refl (w:World):Kept w w:=Below.refl _ _
theorem Kept.trans {a b c:World} (h:Kept a b) (k:Kept b c):Kept a c:=Below.trans h (Below.mono k h.size)
theorem kept_drewN (w:World) (n:Nat):Kept w (w.drewN n):=⟨rfl,rfl,rfl,Nat.le_refl _,fun _ _=>rfl⟩
theorem kept_alloc (w:World) (o:Obj):Kept w (w.alloc o):=(Below.refl _ _).alloc (Nat.le_refl _) _

/-- What the library's search asks of a world: its variable MaxLen holds some number. -/
def Gnd (w:World):Prop:=∃ m,w.cell? ⟨2,0,none⟩=some (.int .i64 m)
theorem Gnd.lt {w:World} (h:Gnd w):2<w.heap.size:=by
 obtain ⟨m,h⟩:=h
 rcases Nat.lt_or_ge 2 w.heap.size with h' | h'
 ·exact h'
 ·simp [World.cell?,Array.getElem?_eq_none h'] at h
theorem Gnd.kept {w w':World} (h:Gnd w) (k:Kept w w'):Gnd w':=by
 have hl:=h.lt
 obtain ⟨m,h⟩:=h
 exact ⟨m,(k.cell (p:=⟨2,0,none⟩) hl).trans h⟩

/-- The byte of a string at a place, as a number. -/
def byteAt (s:ByteArray) (i:Nat):Int:=((s.data.toList.getD i 0).toNat:Int)
theorem byteAt_eq (s:ByteArray) (i:Nat) (h:i<s.size):byteAt s i=((s[i]'h).toNat:Int):=by
 have h':i<s.data.toList.length:=by simpa using h
 unfold byteAt; rw [List.getD_eq_getElem?_getD,List.getElem?_eq_getElem h']; rfl
theorem byteAt_lo (s:ByteArray) (i:Nat):0≤byteAt s i:=by unfold byteAt; omega
theorem byteAt_hi (s:ByteArray) (i:Nat):byteAt s i<256:=by unfold byteAt; have:=(s.data.toList.getD i 0).toNat_lt; omega
theorem byteAt_get (s:ByteArray) (i:Nat):byteAt s i=((s.get! i).toNat:Int):=by
 unfold byteAt
 rcases Nat.lt_or_ge i s.size with h | h
 ·have h':i<s.data.toList.length:=by simpa using h
  rw [List.getD_eq_getElem?_getD,List.getElem?_eq_getElem h']
  have e:s.get! i=s[i]'h:=by
   simp [ByteArray.get!,getElem!_pos,h]
   rfl
  rw [e]; rfl
 ·have h':s.data.toList.length≤i:=by simpa using h
  rw [List.getD_eq_getElem?_getD,List.getElem?_eq_none h']
  have e:s.get! i=0:=by
   simp only [ByteArray.get!]
   rw [getElem!_neg]
   ·rfl
   ·have:s.size=s.data.size:=rfl
    omega
  rw [e]; rfl
theorem run_at {P:Program} {t:TypeId} (h:P.underlying t=some .string) (s:ByteArray) (i:Nat) (hi:i<s.size) (j:Int) (hj:j=i) (w:World) :
  (Instr.index t (.string s) (.int .i64 j)).run P w=.ok (.int .u8 (byteAt s i)) w:=by
 subst hj
 rw [run_index_string w t s .i64 i h,dif_pos ⟨by omega,by omega⟩,byteAt_eq s i hi]
 simp
end Go.Proofs.YtmcoomlkbgiboaaGreatDoor

/- Rows that a call owns, kept over worlds that keep what was there. No condition. -/
set_option linter.all false
namespace Go.Proofs.YtmcoomlkbgiboaaGreatDoor
open Go.RowKit

theorem own_kept {w w':World} {base:Nat} {e:TypeId} {size:Nat} {v:Value} {n:Nat} {xs:List Value} (h:w.ownsRow base e size v n xs) (k:Kept w w'):w'.ownsRow base e size v n xs:=by
 obtain ⟨h1,h2⟩:=h
 refine ⟨h1,?_⟩
 rcases h2 with h2 | ⟨g,cap,cur,hv,hg,hh,r⟩
 ·exact Or.inl h2
 ·have hlt:g<w.heap.size:=by
   rcases Nat.lt_or_ge g w.heap.size with q | q
   ·exact q
   ·rw [Array.getElem?_eq_none q] at hh; cases hh
  exact Or.inr ⟨g,cap,cur,hv,hg,by rw [k.block g hlt]; exact hh,r⟩
theorem own_mono {w:World} {base base':Nat} {e:TypeId} {size:Nat} {v:Value} {n:Nat} {xs:List Value} (h:w.ownsRow base e size v n xs) (k:base'≤base):w.ownsRow base' e size v n xs:=by
 obtain ⟨h1,h2⟩:=h
 refine ⟨h1,?_⟩
 rcases h2 with h2 | ⟨g,cap,cur,hv,hg,r⟩
 ·exact Or.inl h2
 ·exact Or.inr ⟨g,cap,cur,hv,Nat.le_trans k hg,r⟩
theorem own_cap {w:World} {base:Nat} {e:TypeId} {size:Nat} {v:Value} {n:Nat} {xs:List Value} (h:w.ownsRow base e size v n xs):∃ a c,v=.slice a n c∧n≤c∧c≤maxLen∧(0<n→∃ g,a=some ⟨g,0,none⟩∧base≤g∧g<w.heap.size∧∀ j u,xs[j]? = some u→w.cell? ⟨g,j,none⟩=some u):=by
 have hl:=h.1
 rcases h.2 with ⟨rfl,rfl⟩ | ⟨g,cap,cur,rfl,hg,hh,hc,hm,r⟩
 ·exact ⟨none,0,rfl,Nat.le_refl _,by unfold maxLen; omega,fun q=>by omega⟩
 ·refine ⟨_,cap,rfl,hc,hm,fun q=>⟨g,rfl,hg,?_,fun j u hu=>?_⟩⟩
  ·rcases Nat.lt_or_ge g w.heap.size with q | q
   ·exact q
   ·rw [Array.getElem?_eq_none q] at hh; cases hh
  ·have hj:j<n * size:=by
    rcases Nat.lt_or_ge j (n * size) with q | q
    ·exact q
    ·rw [List.getElem?_eq_none (by omega)] at hu; cases hu
   rw [h.cellAt j hj,hu]
/-- Behind an append on a row of the call's own: what lies below the call's first block is as it was, and so is each block that is not the row's. -/
theorem grown_below {w w':World} {base:Nat} {e:TypeId} {size:Nat} {v:Value} {n:Nat} {xs:List Value} (h:w.ownsRow base e size v n xs) (hg:w.grownBy w' v.ownBlock) (hb:base≤w.heap.size):Below base w w' :=
 Below.grown (Below.refl _ _) hg hb (fun k hk=>(h.lt k hk).1)

theorem Kept.trans' {a b c:World} (h:Kept a b) (k:Below a.heap.size b c):Kept a c:=Below.trans h k
theorem new_cells (w:World) (arr:Array Value) (e:TypeId) (g:Nat) (hg:g=w.heap.size):∀ j u,arr.toList[j]? = some u→(w.alloc (.cells arr e)).cell? ((⟨g,0,none⟩:Addr).add j)=some u:=by
 intro j u hu
 have hh:(w.alloc (.cells arr e)).heap[g]? = some (.cells arr e (0,0)):=by rw [hg]; exact heap_alloc_new w _
 have e1:((⟨g,0,none⟩:Addr).add j)=⟨g,j,none⟩:=by unfold Addr.add; split <;> simp_all
 rw [e1]
 simp only [World.cell?,hh]
 rw [Array.getElem?_toList] at hu
 simpa using hu
end Go.Proofs.YtmcoomlkbgiboaaGreatDoor

/- Worlds that differ at some blocks alone. No condition. -/
set_option linter.all false
namespace Go.Proofs.YtmcoomlkbgiboaaGreatDoor
open Go.RowKit

/-- Every block that was there is as it was, but for those of S. -/
structure Only (S:Nat→Prop) (w w':World):Prop where
 os:w'.os=w.os
 tape:w'.tape=w.tape
 output:w'.output=w.output
 size:w.heap.size≤w'.heap.size
 block:∀ k,k<w.heap.size→¬ S k→w'.heap[k]? = w.heap[k]?
theorem Only.of_kept {S:Nat→Prop} {w w':World} (h:Kept w w'):Only S w w':=⟨h.os,h.tape,h.output,h.size,fun k hk _=>h.block k hk⟩
theorem Only.trans {S:Nat→Prop} {a b c:World} (h:Only S a b) (k:Only S b c):Only S a c :=
 ⟨k.os.trans h.os,k.tape.trans h.tape,k.output.trans h.output,Nat.le_trans h.size k.size,fun i hi hs=>(k.block i (Nat.lt_of_lt_of_le hi h.size) hs).trans (h.block i hi hs)⟩
theorem Only.mono {S S':Nat→Prop} {w w':World} (h:Only S w w') (k:∀ i,i<w.heap.size→S i→S' i):Only S' w w' :=
 ⟨h.os,h.tape,h.output,h.size,fun i hi hs=>h.block i hi (fun q=>hs (k i hi q))⟩
theorem Only.grown {w w':World} {row:Option Nat} (h:w.grownBy w' row):Only (fun i=>some i=row) w w':=⟨h.os,h.tape,h.output,h.size,fun k hk hs=>h.block k hk hs⟩
theorem Only.setCell {w:World} (g o:Nat) (v:Value):Only (fun i=>i=g) w (w.setCell ⟨g,o,none⟩ v) :=
 ⟨rfl,rfl,rfl,by simp [World.setCell],fun k hk hs=>by simp [World.setCell,Array.getElem?_modify,Ne.symm hs]⟩
theorem Only.below {S:Nat→Prop} {w w':World} {B:Nat} (h:Only S w w') (hB:B≤w.heap.size) (hS:∀ i,S i→B≤i):Below B w w' :=
 ⟨h.os,h.tape,h.output,h.size,fun k hk=>h.block k (by omega) (fun q=>by have:=hS k q; omega)⟩
theorem Only.cell {S:Nat→Prop} {w w':World} (h:Only S w w') (g o:Nat) (hg:g<w.heap.size) (hs:¬ S g):w'.cell? ⟨g,o,none⟩=w.cell? ⟨g,o,none⟩:=World.cell?_of_block (a:=⟨g,o,none⟩) (h.block g hg hs)
theorem Only.own {S:Nat→Prop} {w w':World} {base:Nat} {e:TypeId} {size:Nat} {v:Value} {n:Nat} {xs:List Value} (h:Only S w w') (ho:w.ownsRow base e size v n xs) (hs:∀ g,v.ownBlock=some g→¬ S g):w'.ownsRow base e size v n xs:=by
 obtain ⟨h1,h2⟩:=ho
 refine ⟨h1,?_⟩
 rcases h2 with h2 | ⟨g,cap,cur,hv,hg,hh,r⟩
 ·exact .inl h2
 ·have hlt:g<w.heap.size:=by
   rcases Nat.lt_or_ge g w.heap.size with q | q
   ·exact q
   ·rw [Array.getElem?_eq_none q] at hh; cases hh
  exact .inr ⟨g,cap,cur,hv,hg,by rw [h.block g hlt (hs g (by rw [hv]; rfl))]; exact hh,r⟩
end Go.Proofs.YtmcoomlkbgiboaaGreatDoor

/- Plain law: a text divided at a byte, cleaned of spaces; what strings.Split hands back is that division. No condition. -/
set_option linter.all false
namespace Go.Proofs.YtmcoomlkbgiboaaGreatDoor

abbrev Bs:=List UInt8
theorem snoc_ind {α:Type} {P:List α→Prop} (h0:P []) (h1:∀ l b,P l→P (l ++ [b])) (l:List α):P l:=by
 have:∀ r:List α,P r.reverse:=by
  intro r
  induction r with
  | nil=>exact h0
  | cons a r ih=>rw [List.reverse_cons]; exact h1 _ _ ih
 have:=this l.reverse
 rwa [List.reverse_reverse] at this
def stepC (c:UInt8) (st:List Bs × Bs) (b:UInt8):List Bs × Bs:=if b=c then (st.1 ++ [st.2],[]) else (st.1,st.2 ++ [b])
def runC (c:UInt8) (l:Bs):List Bs × Bs:=l.foldl (stepC c) ([],[])
def splitC (c:UInt8) (l:Bs):List Bs:=(runC c l).1 ++ [(runC c l).2]

theorem runC_snoc (c:UInt8) (l:Bs) (b:UInt8):runC c (l ++ [b])=stepC c (runC c l) b:=by simp [runC]
theorem fold_none (c:UInt8):∀ (l:Bs) (j:List Bs) (p:Bs),c ∉ l→l.foldl (stepC c) (j,p)=(j,p ++ l)
 | [],j,p,_=>by simp
 | b :: l,j,p,h=>by
  have hb:b≠c:=fun e=>h (by simp [e])
  have hl:c ∉ l:=fun e=>h (by simp [e])
  rw [List.foldl_cons,show stepC c (j,p) b=(j,p ++ [b]) from by simp [stepC,hb],fold_none c l j (p ++ [b]) hl]
  simp
theorem fold_from (c:UInt8):∀ (l:Bs) (j:List Bs) (p:Bs),l.foldl (stepC c) (j,p)=(j ++ (l.foldl (stepC c) ([],p)).1,(l.foldl (stepC c) ([],p)).2)
 | [],j,p=>by simp
 | b :: l,j,p=>by
  by_cases hb:b=c
  ·rw [List.foldl_cons,List.foldl_cons,show stepC c (j,p) b=(j ++ [p],[]) from by simp [stepC,hb],show stepC c ([],p) b=([p],[]) from by simp [stepC,hb],
    fold_from c l (j ++ [p]) [],fold_from c l [p] []]
   simp
  ·rw [List.foldl_cons,List.foldl_cons,show stepC c (j,p) b=(j,p ++ [b]) from by simp [stepC,hb],show stepC c ([],p) b=([],p ++ [b]) from by simp [stepC,hb],
    fold_from c l j (p ++ [b])]
theorem splitC_none (c:UInt8) (l:Bs) (h:c ∉ l):splitC c l=[l]:=by
 unfold splitC runC; rw [fold_none c l [] [] h]; simp
theorem splitC_at (c:UInt8) (a r:Bs) (h:c ∉ a):splitC c (a ++ c :: r)=a :: splitC c r:=by
 unfold splitC runC
 rw [List.foldl_append,fold_none c a [] [] h,List.foldl_cons,show stepC c ([],[] ++ a) c=([a],[]) from by simp [stepC],fold_from c r [a] []]
 simp

/-- The first place of a byte, as the library says it. -/
theorem index_one:∀ (l:Bs) (c:UInt8),(Lib.index l [c] = -1∧c ∉ l)∨∃ i:Nat,Lib.index l [c]=i∧i<l.length∧c ∉ l.take i∧l=l.take i ++ c :: l.drop (i+1)
 | [],c=>.inl ⟨rfl,by simp⟩
 | b :: l,c=>by
  unfold Lib.index
  by_cases hb:c=b
  ·subst hb
   right
   exact ⟨0,by simp,by simp,by simp,by simp⟩
  ·have e:[c].isPrefixOf (b :: l)=false:=by simp [List.isPrefixOf,hb]
   rw [e]
   simp only [Bool.false_eq_true,if_false]
   rcases index_one l c with ⟨h1,h2⟩ | ⟨i,h1,h2,h3,h4⟩
   ·left; exact ⟨by simp [h1],by simp [hb,h2]⟩
   ·right
    have hne:¬ ((i:Int) == -1)=true:=by simp only [beq_iff_eq]; omega
    refine ⟨i+1,by rw [h1,if_neg hne]; omega,by simp; omega,by simp [hb,h3],?_⟩
    simp only [List.take_succ_cons,List.drop_succ_cons,List.cons_append]
    rw [← h4]
theorem splitK_one (c:UInt8):∀ (k:Nat) (l:Bs),l.count c≤k→Lib.splitK [c] 0 k l=splitC c l
 | 0,l,h=>by
  have h0:c ∉ l:=by intro q; have:=List.count_pos_iff.2 q; omega
  rw [splitC_none c l h0]; rfl
 | k+1,l,h=>by
  unfold Lib.splitK
  rcases index_one l c with ⟨h1,h2⟩ | ⟨i,h1,h2,h3,h4⟩
  ·rw [h1,splitC_none c l h2]; rfl
  ·have hne:¬ ((i:Int) == -1)=true:=by simp only [beq_iff_eq]; omega
   rw [h1,if_neg hne]
   have hc:l.count c=1+(l.drop (i+1)).count c:=by
    conv=>lhs; rw [h4]
    rw [List.count_append,List.count_cons,List.count_eq_zero.2 h3]; simp; omega
   have:=splitK_one c k (l.drop (i+1)) (by omega)
   simp only [Int.toNat_natCast,Nat.add_zero,List.length_cons,List.length_nil,Nat.zero_add]
   rw [this]
   conv=>rhs; rw [h4]
   rw [splitC_at c _ _ h3]
theorem splitC_length (c:UInt8) (l:Bs):(splitC c l).length=l.count c+1:=by
 unfold splitC
 have:∀ (l:Bs) (j:List Bs) (p:Bs),(l.foldl (stepC c) (j,p)).1.length=j.length+l.count c:=by
  intro l
  induction l with
  | nil=>simp
  | cons b l ih =>
   intro j p
   rw [List.foldl_cons,List.count_cons]
   by_cases hb:b=c
   ·rw [show stepC c (j,p) b=(j ++ [p],[]) from by simp [stepC,hb],ih]; simp [hb]; omega
   ·rw [show stepC c (j,p) b=(j,p ++ [b]) from by simp [stepC,hb],ih]; simp [hb]
 rw [List.length_append]
 have h:=this l [] []
 simp only [List.length_nil,Nat.zero_add,List.length_cons] at h ⊢
 unfold runC
 omega

theorem countFrom_one (c:UInt8):∀ (f:Nat) (l:Bs),l.length<f→Lib.countFrom [c] f l=l.count c
 | 0,l,h=>by omega
 | f+1,l,h=>by
  unfold Lib.countFrom
  rcases index_one l c with ⟨h1,h2⟩ | ⟨i,h1,h2,h3,h4⟩
  ·rw [h1,List.count_eq_zero.2 h2]; rfl
  ·have hne:¬ ((i:Int) == -1)=true:=by simp only [beq_iff_eq]; omega
   rw [h1,if_neg hne]
   have hc:l.count c=1+(l.drop (i+1)).count c:=by
    conv=>lhs; rw [h4]
    rw [List.count_append,List.count_cons,List.count_eq_zero.2 h3]; simp; omega
   have:=countFrom_one c f (l.drop (i+1)) (by simp; omega)
   simp only [Int.toNat_natCast,List.length_cons,List.length_nil,Nat.zero_add]
   rw [this,hc]
theorem count_one (l:Bs) (c:UInt8):Lib.count l [c]=l.count c:=countFrom_one c _ _ (by omega)
theorem splitB_one (s:ByteArray) (c:UInt8):(Lib.splitB ⟨#[c]⟩ 0 (Lib.countB s ⟨#[c]⟩) s).map (·.data.toList)=splitC c s.data.toList:=by
 rw [Lib.splitB_data]
 refine splitK_one c _ _ ?_
 show _≤Lib.count s.data.toList [c]
 rw [count_one]; exact Nat.le_refl _
theorem countB_one (s:ByteArray) (c:UInt8):Lib.countB s ⟨#[c]⟩=s.data.toList.count c:=count_one _ _

/-- The words of a text: its parts between spaces that are not empty; the text, cleaned: its words with one space between them. -/
def wordsOf (l:Bs):List Bs:=(splitC 32 l).filter (fun x=>!x.isEmpty)
def cleanL (l:Bs):Bs:=Lib.join (wordsOf l) [32]

theorem containsAny_eq (cs:Bs):∀ l:Bs,Lib.containsAny l cs=l.any (fun b=>cs.contains b)
 | []=>rfl
 | b :: l=>by
  have ih:=containsAny_eq cs l
  unfold Lib.containsAny at ih ⊢
  unfold Lib.indexAny
  have hg:=Lib.indexAny_ge cs l
  rw [List.any_cons]
  by_cases h:cs.contains b=true
  ·rw [h]; simp
  ·have h':cs.contains b=false:=by simpa using h
   rw [h',← ih]
   by_cases q:Lib.indexAny l cs = -1
   ·rw [q]; rfl
   ·have q':(Lib.indexAny l cs == -1)=false:=by simpa using q
    simp only [q',Bool.false_or,Bool.false_eq_true,if_false,decide_eq_decide]
    omega
theorem indexByte_contains (c:UInt8):∀ l:Bs,decide (0≤Lib.indexByte l c)=l.contains c
 | []=>rfl
 | b :: l=>by
  have ih:=indexByte_contains c l
  unfold Lib.indexByte
  have hg:=Lib.indexByte_ge l c
  rw [List.contains_cons,← ih]
  by_cases h:b=c
  ·subst h; simp
  ·have h1:(b == c)=false:=by simpa using h
   have h2:(c == b)=false:=by simpa using fun e=>h e.symm
   rw [h1,h2]
   by_cases q:Lib.indexByte l c = -1
   ·rw [q]; rfl
   ·have q':(Lib.indexByte l c == -1)=false:=by simpa using q
    simp only [q',Bool.false_or,Bool.false_eq_true,if_false,decide_eq_decide]
    omega
end Go.Proofs.YtmcoomlkbgiboaaGreatDoor
