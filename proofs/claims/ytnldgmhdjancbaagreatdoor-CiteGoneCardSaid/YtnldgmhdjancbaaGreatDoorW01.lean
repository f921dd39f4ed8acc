/- Parts. -/
import Derived.Test.YtnldgmhdjancbaaGreatDoorProg
import Derived.Lib.SmallJoins
import Derived.Shelf.Strings.OnBuilder
import Derived.Shelf.Small.Utf8
import Derived.Shelf.Small.Wraps
import Derived.Shelf.Strings.BuilderK
import Derived.Shelf.Strconv.Itoa3
import Derived.Shelf.Strings.Shaped
import Derived.Shelf.Strings.SplitShaped
import Derived.Shelf.Strings.IndexAnyAll
import Derived.Shelf.Unicode.DecodeSlow
import Derived.Shelf.Strings.FieldsAny
import Derived.Shelf.Unicode.ExclAny
set_option linter.all false
namespace Go.Proofs.YtnldgmhdjancbaaGreatDoor
open Go.RowKit Go.Proofs.Tryz
def aa:=@if_neg
def ab:=@beq_eq_false_iff_ne
def ac:=@List.getElem?_eq_getElem
def ae:=@if_pos
def ah:=@List.length_append
def ai:=@Nat.zero_le
def aj:=@List.setIfInBounds_toArray
def ak:=@List.getElem?_eq_some_iff
def am:=@List.mem_of_getElem?
def aq:=@underlying9
def aw:=@Nat.le_refl
def ax:=@List.set_cons_zero
def ay:=@List.set_cons_succ
def az:=@List.length_cons
def aG:=@List.getElem_cons_zero
def aH:=@List.getElem_cons_succ
def aJ:=@List.drop_eq_getElem_cons
def aU:=@Nat.lt_of_lt_of_le
def aV:=@List.mem_append
def aX:=@List.getElem_toArray
def ba:=@Bool.and_eq_true
def bd:=@List.map_cons
def bf:=@List.take_succ_eq_append_getElem
def bh:=@beq_iff_eq
def bi:=@List.take_length
def bj:=@List.mem_cons
def bl:=@List.mem_cons_of_mem
def bm:=@List.length_map
def bn:=@Sem.run_pure
def bo:=@Sem.run_bind
def bp:=@List.getElem?_append_right
def bq:=@Array.getD_eq_getD_getElem?
def bu:=@List.mem_singleton
def bw:=@List.length_take
def bx:=@List.take_of_length_le
def bB:=@Array.getElem?_eq_none
def bC:=@Nat.le_trans
def bD:=@List.length_eq_zero_iff
def bE:=@Array.getElem?_toList
def bG:=@Nat.lt_or_ge
def bH:=@decide_eq_false
def bI:=@List.mem_cons_self
def bJ:=@decide_eq_true
def bL:=@Value.slice.inj
def bM:=@bodyPost_ret
def bN:=@List.append_nil
def bO:=@List.not_mem_nil
def bP:=@Nat.zero_add
def bQ:=@List.mem_map
def bR:=@List.contains_iff_mem
def bT:=@run_underlying
def bU:=@List.length_singleton
def bW:=@underlying3
def bX:=@List.getElem?_append_left
def bY:=@Array.getElem?_eq_getElem
def bZ:=@List.all_toArray
def ca:=@List.map_nil
def cd:=@List.getD_eq_getElem?_getD
def ce:=@List.take_append_drop
def cg:=@info_parts
def ci:=@List.all_cons
def cj:=@List.length_nil
def ck:=@List.map_toArray
def cn:=@Array.size_setIfInBounds
def cq:=@decide_eq_true_eq
def cw:=@List.mem_of_find?_eq_some
def cG:=@Option.map_eq_some_iff
def cH:=@List.take_zero
def cI:=@List.map_append
def cJ:=@List.isEmpty_eq_false_iff
def cV:=@wpList_append_own
def cX:=@List.append_assoc
def da:=@List.take_succ_cons
def db:=@List.drop_of_length_le
def dc:=@List.all_nil
def dd:=@bne_iff_ne
def de:=@World.size_alloc
def dg:=@World.ownsRow_nil
def dh:=@underlying50
def di:=@underlying39
def dl:=@Nat.add_zero
def dm:=@List.getElem_mem
def dn:=@List.all_eq_true
def dr:=@Bool.false_eq_true
def du:=@List.drop_length
def dv:=@List.any_eq_true
def dw:=@underlying37
def dx:=@underlying28
def dy:=@List.getElem?_map
def dB:=@List.flatMap_cons
def dC:=@List.drop_succ_cons
def dD:=@Array.length_toList
def dE:=@Option.getD_some
def dG:=@of_decide_eq_true
def dH:=@Int.toNat_natCast
def dI:=@underlying141
def dJ:=@Array.getElem?_setIfInBounds_ne
def dK:=@List.getElem?_toArray
def dL:=@Bool.or_eq_true
def dM:=@underlying40
def dN:=@List.flatten_cons
def dO:=@List.length_drop
def dP:=@underlying65
def dQ:=@List.size_toArray
def dR:=@Decidable.not_not
def dT:=@Nat.eq_zero_or_pos
def dU:=@Nat.add_assoc
def dV:=@List.nil_append
def dW:=@List.foldl_cons
def dX:=@Bool.eq_iff_iff
def dY:=@List.getLastD_eq_getLast?
def dZ:=@List.getElem_of_mem
def eb:=@underlying42
def ee:=@decide_eq_false_iff_not
def ef:=@List.mem_flatMap
def eh:=@List.filter_cons
def ei:=@List.cons_append
def ej:=@or_false
def el:=@heap_alloc_new
def eo:=@List.take_succ
def ep:=@run_makeMap
def eu:=@Array.getElem?_modify
def ev:=@decide_eq_true_iff
def ew:=@underlying178
def ex:=@underlying162
def eB:=@Nat.mul_le_mul_right
def eC:=@Nat.mul_le_mul
def eD:=@List.any_eq_false
def eE:=@Bool.eq_false_iff
def eG:=@Option.some.inj
def eH:=@Array.getElem?_setIfInBounds
def eI:=@List.length_pos_iff
def eJ:=@List.flatMap_append
def eK:=@List.cons.inj
def eL:=@Bool.true_and
def eM:=@Bool.false_or
def eN:=@underlying145
def eO:=@Option.isSome_some
def eP:=@Array.ext_getElem?
def eQ:=@World.iter_heap
def eR:=@Option.map_some
def eT:=@List.sum_append
def eU:=@List.mem_filter
def eV:=@Lib.iterAt_size
def eW:=@underlying23
def eX:=@List.mem_of_mem_take
def eY:=@List.getElem?_mapIdx
def fd:=@List.replicate_succ
def fe:=@if_false
def ff:=@World.block_lt_of_cell?
def fh:=@List.mapIdx_cons
def fi:=@List.drop_zero
def fj:=@Lib.below_iterAt
def fk:=@Nat.mul_one
def fl:=@Int.le_refl
def fm:=@World.ownsRow_made
def fo:=@UInt8.toNat_ofNat'
def fp:=@Nat.sub_self
def fq:=@List.getElem?_take
def fw:=@List.find?_cons
def fx:=@List.dropLast_concat_getLast
def fy:=@Lib.iterAt_heap
def fC:=@List.length_filter_le
def fD:=@World.cells?_some
def fG:=@underlying48
def fH:=@List.foldl_append
def fI:=@Array.toList_setIfInBounds
def fJ:=@Array.getElem?_eq_some_iff
def fK:=@dif_pos
def fN:=@Option.getD_none
def fO:=@Nat.succ_mul
def fS:=@List.takeWhile_cons
def fT:=@insOuter_stop
def fV:=@results177
def fW:=@results100
def fY:=@List.all_append
def fZ:=@underlying138
def ga:=@Option.isSome_none
def gb:=@List.mapIdx_append
def gc:=@Below.refl
def gg:=@underlying52
def gh:=@underlying22
def gi:=@Nat.zero_mul
def gj:=@List.count_append
def gl:=@DataW.weights_mem_each
def gm:=@Bool.and_false
def gn:=@List.mem_append_right
def go:=@List.getElem?_eq_none
def gq:=@underlying5
def gw:=@Lib.indexByte_ge
def gz:=@Bool.not_eq_true
def gA:=@ntmps100
def gB:=@List.sum_cons
def gC:=@Lib.join_cons
def gD:=@Nat.mul_add
def gE:=@List.mem_of_getLast?
def gF:=@List.mem_append_left
def gG:=@List.count_le_length
def gH:=@Lib.byteCells_length
def gJ:=@List.any_append
def gM:=@Lib.indexAny_ge
def gN:=@List.reverse_append
def gO:=@ntmps82
def gP:=@func100
def gT:=@func3
def gW:=@List.find?_eq_none
def gY:=@List.filter_append
def gZ:=@List.mem_or_eq_of_mem_set
def hU:=@underlying92
def hZ:=@underlying62
def ia:=@underlying26
def ic:=@func82
def ie:=@Result.andThen_ok
def ii:=@Nat.one_mul
def ij:=@Nat.add_mul
def ik:=@List.find?_append
def im:=@List.ext_getElem?
def io:=@List.all_eq_false
def iq:=@DataW.trod_struct
def ir:=@Bool.not_eq_true'
def iu:=@ntmps185
def iB:=@Nat.lt_irrefl
def iD:=@Below.setCell
def iG:=@beq_self_eq_true
def iH:=@underlying4
def iK:=@Nat.mod_eq_of_lt
def iM:=@List.mem_nil_iff
def iN:=@run_convert_bytes_back
def iQ:=@ntmps29
def iR:=@ntmps11
def iT:=@func185
def iU:=@Nat.mul_comm
def iV:=@List.find?_cons_of_pos
def iW:=@Lib.join_one
def iX:=@UInt8.toNat_inj
def iY:=@Option.map_none
def i7:=@List.count_cons
def i8:=@Exit.noGoto_ret
def i9:=@List.mem_iff_getElem?
def ja:=@Bool.and_eq_false_iff
def jb:=@Array.getElem?_setIfInBounds_self_of_lt
def jc:=@getD_set_ne
def jd:=@World.cell?_of_block
def jf:=@func29
def jg:=@func11
def jm:=@List.mem_range
def jq:=@List.getElem?_of_mem
def jr:=@List.drop_drop
def js:=@DataW.trod_int
def jt:=@Bool.not_false
def ju:=@Bool.false_and
def jw:=@List.mem_map_of_mem
def jy:=@List.filterMap_cons
def jA:=@results8
def jB:=@ntmps198
def jC:=@ntmps148
def jD:=@List.map_take
def jE:=@List.any_cons
def jF:=@World.grownBy.refl
def jG:=@underlying251
def jH:=@underlying199
def jI:=@underlying198
def jK:=@Nat.mod_lt
def jL:=@List.mem_replicate
def jM:=@List.count_eq_zero
def jN:=@results_none
def jO:=@if_true
def jP:=@dif_neg
def jQ:=@underlying95
def jR:=@underlying77
def jS:=@underlying46
def jT:=@underlying25
def jU:=@underlying21
def jV:=@ntmps53
def jW:=@ntmps44
def jX:=@ntmps25
def jY:=@func198
def jZ:=@func148
def ke:=@Ne.symm
def kg:=@List.nodup_append
def kh:=@Lib.join_nil
def ki:=@decide_eq_decide
def kj:=@List.isEmpty_iff
def km:=@ntmps5
def ko:=@ntmps3
def kp:=@func53
def kq:=@func44
def kr:=@func25
def kv:=@List.drop_append_of_le_length
def kw:=@results212
def kx:=@Nat.min_eq_left
def ky:=@List.cons.injEq
def kC:=@wp_loop_rounds
def kD:=@results17
def kE:=@func5
def kG:=@List.take_take
def kH:=@List.nodup_nil
def kI:=@IntWalk.i64_in
def kJ:=@Eq.trans
def kK:=@List.mem_take_iff_getElem
def Hi(p:Prop):Prop:=p
def Hi.o{p:Prop}(h:Hi p):p:=h
def gX{α:Type}(a:α):∃x,Hi (a=x):=⟨a,rfl⟩
def Hd{p:Prop}(h:p):Hi p:=h
def zaU{k:IntKind}{a b:Int}(h:a=b):Ending.returned (.int k a)=.returned (.int k b):=by rw[h]
def zaY{a b:Bool}(h:a=b):Ending.returned (.bool a)=.returned (.bool b):=by rw[h]
def zDI{k l:IntKind}{a b c d:Int}(h:a=b)(h':c=d):Ending.returned (.tuple #[.int k a,.int l c])=.returned (.tuple #[.int k b,.int l d]):=by rw[h,h']
abbrev Kept(w w':World):Prop:=Below w.heap.size w w'
def Kept.refl(w:World):Kept w w:=gc _ _
def Kept.trans{a b c:World}(h:Kept a b)(k:Kept b c):Kept a c:=Below.trans h (Below.mono k h.size)
def zaB(w:World)(n:Nat):Kept w (w.drewN n):=⟨rfl,rfl,rfl,aw _,fun _ _=>rfl⟩
def zaA(w:World)(o:Obj):Kept w (w.alloc o):=(gc _ _).alloc (aw _) _
def Gnd(w:World):Prop:=∃m,w.cell? ⟨2,0,none⟩=some (.int .i64 m)
def Gnd.lt{w:World}(h:Gnd w):2<w.heap.size:=by
 obtain⟨m,h⟩:=h;rcases bG 2 w.heap.size with h'|h'
 .exact h'
 .simp [World.cell?,bB h']at h
def Gnd.kept{w w':World}(h:Gnd w)(k:Kept w w'):Gnd w':=by
 have hl:=h.lt;obtain⟨m,h⟩:=h;exact⟨m,(k.cell (p:=⟨2,0,none⟩) hl).trans h⟩
def zaC(s:ByteArray)(i:Nat):Int:=((s.data.toList.getD i 0).toNat:Int)
def zAk(s:ByteArray)(i:Nat)(h:i<s.size):zaC s i=((s[i]'h).toNat:Int):=by
 have h':i<s.data.toList.length:=(by simpa using h);unfold zaC;rw[cd,ac h'];rfl
def zcR(s:ByteArray)(i:Nat):0<=zaC s i:=by unfold zaC;omega
def zcF(s:ByteArray)(i:Nat):zaC s i<256:=by unfold zaC;have:=(s.data.toList.getD i 0).toNat_lt;omega
def zgY(s:ByteArray)(i:Nat):zaC s i=((s.get! i).toNat:Int):=by
 unfold zaC;rcases bG i s.size with h|h
 .have h':i<s.data.toList.length:=(by simpa using h);rw[cd,ac h'];have e:s.get! i=s[i]'h:=by
   simp [ByteArray.get!,getElem!_pos,h];rfl
  rw[e];rfl
 .have h':s.data.toList.length<=i:=(by simpa using h);rw[cd,go h'];have e:s.get! i=0:=by
   simp only[ByteArray.get!];rw[getElem!_neg]
   .rfl
   .have:s.size=s.data.size:=rfl;omega
  rw[e];rfl
def znU{P:Program}{t:TypeId}(h:P.underlying t=some .string)(s:ByteArray)(i:Nat)(hi:i<s.size)(j:Int)(hj:j=i)(w:World):(Instr.index t (.string s) (.int .i64 j)).run P w=.ok (.int .u8 (zaC s i)) w:=by
 subst hj;rw[run_index_string w t s .i64 i h,fK ⟨by omega,by omega⟩,zAk s i hi];simp
def za1{w w':World}{base:Nat}{e:TypeId}{size:Nat}{v:Value}{n:Nat}{xs:List Value}(h:w.ownsRow base e size v n xs)(k:Kept w w'):w'.ownsRow base e size v n xs:=by
 obtain⟨h1,h2⟩:=h;refine⟨h1,?_⟩;rcases h2 with h2|⟨g,lJ,mK,hv,hg,hh,r⟩
 .exact Or.inl h2
 .have kV:g<w.heap.size:=by
   rcases bG g w.heap.size with q|q
   .exact q
   .rw[bB q]at hh;cases hh
  exact Or.inr ⟨g,lJ,mK,hv,hg,by rw[k.block g kV];exact hh,r⟩
def zvT{w:World}{base base':Nat}{e:TypeId}{size:Nat}{v:Value}{n:Nat}{xs:List Value}(h:w.ownsRow base e size v n xs)(k:base'<=base):w.ownsRow base' e size v n xs:=by
 obtain⟨h1,h2⟩:=h;refine⟨h1,?_⟩;rcases h2 with h2|⟨g,lJ,mK,hv,hg,r⟩
 .exact Or.inl h2
 .exact Or.inr ⟨g,lJ,mK,hv,bC k hg,r⟩
def zaZ{w:World}{base:Nat}{e:TypeId}{size:Nat}{v:Value}{n:Nat}{xs:List Value}(h:w.ownsRow base e size v n xs):∃a c,v=.slice a n c/\n<=c/\c<=maxLen/\(0<n->∃g,a=some ⟨g,0,none⟩/\base<=g/\g<w.heap.size/\∀j u,xs[j]? = some u->w.cell? ⟨g,j,none⟩=some u):=by
 have hl:=h.1;rcases h.2 with⟨rfl,rfl⟩|⟨g,lJ,mK,rfl,hg,hh,hc,hm,r⟩
 .exact⟨none,0,rfl,aw _,by unfold maxLen;omega,fun q=>by omega⟩
 .refine⟨_,lJ,rfl,hc,hm,fun q=>⟨g,rfl,hg,?_,fun j u hu=>?_⟩⟩
  .rcases bG g w.heap.size with q|q
   .exact q
   .rw[bB q]at hh;cases hh
  .have hj:j<n * size:=by
    rcases bG j (n * size)with q|q
    .exact q
    .rw[go (by omega)]at hu;cases hu
   rw[h.cellAt j hj,hu]
def za2{w w':World}{base:Nat}{e:TypeId}{size:Nat}{v:Value}{n:Nat}{xs:List Value}(h:w.ownsRow base e size v n xs)(hg:w.grownBy w' v.ownBlock)(hb:base<=w.heap.size):Below base w w' :=
 Below.grown (gc _ _) hg hb (fun k hk=>(h.lt k hk).1)
def Kept.trans'{a b c:World}(h:Kept a b)(k:Below a.heap.size b c):Kept a c:=Below.trans h k
def zbO(w:World)(arr:Array Value)(e:TypeId)(g:Nat)(hg:g=w.heap.size):∀j u,arr.toList[j]? = some u->(w.alloc (.cells arr e)).cell? ((⟨g,0,none⟩:Addr).add j)=some u:=by
 intro j u hu;have hh:(w.alloc (.cells arr e)).heap[g]? = some (.cells arr e (0,0)):=(by rw[hg];exact el w _);have e1:((⟨g,0,none⟩:Addr).add j)=⟨g,j,none⟩:=(by unfold Addr.add;split<;>simp_all);rw[e1];simp only[World.cell?,hh];rw[bE]at hu;simpa using hu
def zxK{w w':World}{row:Option Nat}(hg:w.grownBy w' row)(g o:Nat)(kV:g<w.heap.size)(lV:some g≠row):w'.cell? ⟨g,o,none⟩=w.cell? ⟨g,o,none⟩ :=
 jd (a:=⟨g,o,none⟩) (hg.block g kV lV)
def zI2{w:World}{base:Nat}{e:TypeId}{size:Nat}{v:Value}{n:Nat}{xs:List Value}(h:w.ownsRow base e size v n xs)(g:Nat)(hg:w.heap.size<=g):some g≠v.ownBlock:=fun q=>by
 have:=(h.lt g q.symm).2;omega
end Go.Proofs.YtnldgmhdjancbaaGreatDoor

namespace Go.Proofs.YtnldgmhdjancbaaGreatDoor
open Go.Proofs.Tryz
abbrev Bs:=List UInt8
def zvU{α:Type}{P:List α->Prop}(h0:P [])(h1:∀l b,P l->P (l++[b]))(l:List α):P l:=by
 have:∀r:List α,P r.reverse:=by
  intro r
  induction r with
  | nil=>exact h0
  | cons a r ih=>rw[List.reverse_cons];exact h1 _ _ ih
 have:=this l.reverse
 rwa [List.reverse_reverse]at this
def zcC(c:UInt8)(st:List Bs×Bs)(b:UInt8):List Bs×Bs:=if b=c then(st.1++[st.2],[])else(st.1,st.2++[b])
def zxL(c:UInt8)(l:Bs):List Bs×Bs:=l.foldl (zcC c) ([],[])
def zbB(c:UInt8)(l:Bs):List Bs:=(zxL c l).1++[(zxL c l).2]
def zAl(c:UInt8)(l:Bs)(b:UInt8):zxL c (l++[b])=zcC c (zxL c l) b:=by simp [zxL]
def zlT(c:UInt8):∀(l:Bs) (j:List Bs) (p:Bs),c∉l->l.foldl (zcC c) (j,p)=(j,p++l)
 | [],j,p,_=>by simp
 | b::l,j,p,h=>by
  have hb:b≠c:=fun e=>h (by simp [e]);have hl:c∉l:=fun e=>h (by simp [e]);rw[dW,show zcC c (j,p) b=(j,p++[b])from by simp [zcC,hb],zlT c l j (p++[b]) hl];simp
def ze4(c:UInt8):∀(l:Bs) (j:List Bs) (p:Bs),l.foldl (zcC c) (j,p)=(j++(l.foldl (zcC c) ([],p)).1,(l.foldl (zcC c) ([],p)).2)
 | [],j,p=>by simp
 | b::l,j,p=>by
  by_cases hb:b=c
  .rw[dW,dW,show zcC c (j,p) b=(j++[p],[])from by simp [zcC,hb],show zcC c ([],p) b=([p],[])from by simp [zcC,hb],
    ze4 c l (j++[p]) [],ze4 c l [p] []]
   simp
  .rw[dW,dW,show zcC c (j,p) b=(j,p++[b])from by simp [zcC,hb],show zcC c ([],p) b=([],p++[b])from by simp [zcC,hb],
    ze4 c l j (p++[b])]
def zfV(c:UInt8)(l:Bs)(h:c∉l):zbB c l=[l]:=by
 unfold zbB zxL;rw[zlT c l [] [] h];simp
def zlU(c:UInt8)(a r:Bs)(h:c∉a):zbB c (a++c::r)=a::zbB c r:=by
 unfold zbB zxL;rw[fH,zlT c a [] [] h,dW,show zcC c ([],[]++a) c=([a],[])from by simp [zcC],ze4 c r [a] []];simp
def zh5:∀(l:Bs) (c:UInt8),(Lib.index l [c] = -1/\c∉l)\/∃i:Nat,Lib.index l [c]=i/\i<l.length/\c∉l.take i/\l=l.take i++c::l.drop (i+1)
 | [],c=>.inl ⟨rfl,by simp⟩
 | b::l,c=>by
  unfold Lib.index;by_cases hb:c=b
  .subst hb;right;exact⟨0,by simp,by simp,by simp,by simp⟩
  .have e:[c].isPrefixOf (b::l)=false:=(by simp [List.isPrefixOf,hb]);rw[e];simp only[dr,fe];rcases zh5 l c with⟨h1,h2⟩|⟨i,h1,h2,h3,h4⟩
   .left;exact⟨by simp [h1],by simp [hb,h2]⟩
   .right;have lV:¬ ((i:Int) == -1)=true:=(by simp only[bh];omega);refine⟨i+1,by rw[h1,aa lV];omega,by simp;omega,by simp [hb,h3],?_⟩;simp only[da,dC,ei];rw[<- h4]
def znV(c:UInt8):∀(k:Nat) (l:Bs),l.count c<=k->Lib.splitK [c] 0 k l=zbB c l
 | 0,l,h=>by
  have h0:c∉l:=(by intro q;have:=List.count_pos_iff.2 q;omega);rw[zfV c l h0];rfl
 | k+1,l,h=>by
  unfold Lib.splitK;rcases zh5 l c with⟨h1,h2⟩|⟨i,h1,h2,h3,h4⟩
  .rw[h1,zfV c l h2];rfl
  .have lV:¬ ((i:Int) == -1)=true:=(by simp only[bh];omega);rw[h1,aa lV];have hc:l.count c=1+(l.drop (i+1)).count c:=by
    conv=>lhs;rw[h4]
    rw[gj,i7,jM.2 h3];simp;omega
   have:=znV c k (l.drop (i+1)) (by omega);simp only[dH,dl,az,cj,bP];rw[this]
   conv=>rhs;rw[h4]
   rw[zlU c _ _ h3]
def zd7(c:UInt8)(l:Bs):(zbB c l).length=l.count c+1:=by
 unfold zbB;have:∀(l:Bs) (j:List Bs) (p:Bs),(l.foldl (zcC c) (j,p)).1.length=j.length+l.count c:=by
  intro l
  induction l with
  | nil=>simp
  | cons b l ih =>
   intro j p;rw[dW,i7];by_cases hb:b=c
   .rw[show zcC c (j,p) b=(j++[p],[])from by simp [zcC,hb],ih];simp [hb];omega
   .rw[show zcC c (j,p) b=(j,p++[b])from by simp [zcC,hb],ih];simp [hb]
 rw[ah];have h:=this l [] [];simp only[cj,bP,az]at h ⊢;unfold zxL;omega
def zh6(c:UInt8):∀(f:Nat) (l:Bs),l.length<f->Lib.countFrom [c] f l=l.count c
 | 0,l,h=>by omega
 | f+1,l,h=>by
  unfold Lib.countFrom;rcases zh5 l c with⟨h1,h2⟩|⟨i,h1,h2,h3,h4⟩
  .rw[h1,jM.2 h2];rfl
  .have lV:¬ ((i:Int) == -1)=true:=(by simp only[bh];omega);rw[h1,aa lV];have hc:l.count c=1+(l.drop (i+1)).count c:=by
    conv=>lhs;rw[h4]
    rw[gj,i7,jM.2 h3];simp;omega
   have:=zh6 c f (l.drop (i+1)) (by simp;omega);simp only[dH,az,cj,bP];rw[this,hc]
def zqV(l:Bs)(c:UInt8):Lib.count l [c]=l.count c:=zh6 c _ _ (by omega)
def zxM(s:ByteArray)(c:UInt8):(Lib.splitB ⟨#[c]⟩ 0 (Lib.countB s ⟨#[c]⟩) s).map (·.data.toList)=zbB c s.data.toList:=by
 rw[Lib.splitB_data];refine znV c _ _ ?_;show _<=Lib.count s.data.toList [c];rw[zqV];exact aw _
def zxN(s:ByteArray)(c:UInt8):Lib.countB s ⟨#[c]⟩=s.data.toList.count c:=zqV _ _
def zAm(l:Bs):List Bs:=(zbB 32 l).filter (fun x=>!x.isEmpty)
def zlV(l:Bs):Bs:=Lib.join (zAm l) [32]
def zhK(cs:Bs):∀l:Bs,Lib.containsAny l cs=l.any (fun b=>cs.contains b)
 | []=>rfl
 | b::l=>by
  have ih:=zhK cs l;unfold Lib.containsAny at ih ⊢;unfold Lib.indexAny;have hg:=gM cs l;rw[jE];by_cases h:cs.contains b=true
  .rw[h];simp
  .have h':cs.contains b=false:=(by simpa using h);rw[h',<- ih];by_cases q:Lib.indexAny l cs = -1
   .rw[q];rfl
   .have q':(Lib.indexAny l cs == -1)=false:=(by simpa using q);simp only[q',eM,dr,fe,ki];omega
def za6(c:UInt8):∀l:Bs,decide (0<=Lib.indexByte l c)=l.contains c
 | []=>rfl
 | b::l=>by
  have ih:=za6 c l;unfold Lib.indexByte;have hg:=gw l c;rw[List.contains_cons,<- ih];by_cases h:b=c
  .subst h;simp
  .have h1:(b==c)=false:=(by simpa using h);have h2:(c==b)=false:=(by simpa using fun e=>h e.symm);rw[h1,h2];by_cases q:Lib.indexByte l c = -1
   .rw[q];rfl
   .have q':(Lib.indexByte l c == -1)=false:=(by simpa using q);simp only[q',eM,dr,fe,ki];omega
end Go.Proofs.YtnldgmhdjancbaaGreatDoor

namespace Go.Proofs.YtnldgmhdjancbaaGreatDoor
open Go.RowKit Go.Proofs.Tryz
def bs(l:Bs):ByteArray:=⟨l.toArray⟩
@[simp] def zd8(l:Bs):ByteArray.mk l.toArray=bs l:=rfl
@[simp] def zDJ:ByteArray.empty=bs []:=rfl
@[simp] def zfW(l:Bs):(bs l).data.toList=l:=rfl
@[simp] def zdZ(l:Bs):(bs l).size=l.length:=rfl
@[simp] def zI3(l:Bs):(bs l).toList=l:=ByteArray.toList_eq _
def zJ4(s:ByteArray):∃l,s=bs l:=⟨s.data.toList,rfl⟩
def zGc{s:ByteArray}{l:Bs}(h:s.data.toList=l):s=bs l:=by subst h;rfl
@[simp] def zqW(a b:Bs):bs a++bs b=bs (a++b):=zGc (by rw[Joins.data_append];rfl)
@[simp] def zxO(l:Bs)(i j:Nat):(bs l).extract i j=bs ((l.drop i).take (j - i)):=zGc (by rw[Lib.extract_data];rfl)
@[simp] def zKs(a b:Bs):bs a=bs b↔a=b:=⟨fun h=>by have:=congrArg (fun s:ByteArray=>s.data.toList) h;simpa using this,fun h=>by rw[h]⟩
def zf8{a b:Bs}(h:a=b):Ending.returned (.string (bs a))=.returned (.string (bs b)):=by rw[h]
def at8(l:Bs)(i:Nat):Int:=((l.getD i 0).toNat:Int)
def za4(l:Bs)(i:Nat):zaC (bs l) i=at8 l i:=rfl
def zh7(l:Bs)(i:Nat):0<=at8 l i:=by unfold at8;omega
def zAn(l:Bs)(i:Nat):at8 l i<256:=zcF (bs l) i
def zbP(l:Bs)(i:Nat)(h:i<l.length):at8 l i=((l[i]'h).toNat:Int):=by unfold at8;rw[cd,ac h];rfl
def zbL{P:Program}{t:TypeId}(h:P.underlying t=some .string)(l:Bs)(i:Nat)(hi:i<l.length)(j:Int)(hj:j=i)(w:World):(Instr.index t (.string (bs l)) (.int .i64 j)).run P w=.ok (.int .u8 (at8 l i)) w:=znU h (bs l) i hi j hj w
def zgI{P:Program}{t:TypeId}(h:P.underlying t=some .string)(l:Bs)(i j:Nat)(hi:i<=j)(hj:j<=l.length)(a b:Int)(ha:a=i)(hb:b=j)(x:Bs)(hx:(l.drop i).take (j - i)=x)(w:World):(Instr.slice t (.string (bs l)) (some (.int .i64 a)) (some (.int .i64 b)) none).run P w=.ok (.string (bs x)) w:=by
 subst ha hb hx;rw[run_slice_string w t (bs l) .i64 .i64 i j h (by omega) (by omega) (by simp;omega)];simp
def zgZ{P:Program}{t:TypeId}(h:P.underlying t=some .string)(l:Bs)(i:Nat)(hi:i<=l.length)(a:Int)(ha:a=i)(x:Bs)(hx:l.drop i=x)(w:World):(Instr.slice t (.string (bs l)) (some (.int .i64 a)) none none).run P w=.ok (.string (bs x)) w:=by
 subst ha hx;rw[run_slice_string_l w t (bs l) h .i64 i (by omega) (by simp;omega)];simp only[zdZ,zxO,dH];rw[bx (by simp)]
def zoV{P:Program}{t:TypeId}(h:P.underlying t=some .string)(l:Bs)(j:Nat)(hj:j<=l.length)(b:Int)(hb:b=j)(x:Bs)(hx:l.take j=x)(w:World):(Instr.slice t (.string (bs l)) none (some (.int .i64 b)) none).run P w=.ok (.string (bs x)) w:=by
 subst hb hx;rw[run_slice_string_h w t (bs l) h .i64 j (by omega) (by simp;omega)];simp
def zlW(l:Bs)(k:Nat)(h:k<l.length):l.take (k+1)=l.take k++[l[k]]:=bf h
def zoW(l:Bs)(k:Nat)(h:k<l.length):(l.drop k).take (k+1 - k)=[l[k]]:=by
 rw[show k+1 - k=1 from by omega,aJ h];rfl
def zj8(x:UInt8)(n:Nat)(h:n<256):((x.toNat:Int)=n)↔x=UInt8.ofNat n:=by
 constructor
 .intro q;apply iX.1;rw[fo,iK h];omega
 .rintro rfl;rw[fo,iK h]
end Go.Proofs.YtnldgmhdjancbaaGreatDoor

namespace Go.Proofs
open Go.Shelf
def Tryz.rn:Go.Shelf.Ren:=⟨fun|106=>94|119=>182|122=>93|129=>203|137=>77|138=>158|143=>116|144=>81|145=>88|146=>78|150=>163|152=>148|153=>109|156=>86|157=>50|165=>123|166=>74|169=>75|171=>87|195=>186|197=>187|199=>90|213=>133|215=>132|217=>112|218=>188|219=>161|220=>125|221=>113|224=>183|225=>184|226=>149|227=>150|228=>151|229=>89|240=>111|241=>167|243=>124|246=>168|260=>200|261=>126|265=>174|266=>156|267=>189|268=>157|276=>155|277=>190|283=>191|284=>192|285=>193|286=>194|311=>169|312=>170|314=>201|317=>202|318=>204|319=>205|320=>206|337=>214|338=>215|n=>n,fun|31=>37|37=>145|40=>167|46=>222|49=>230|51=>193|53=>257|59=>163|70=>144|72=>147|75=>149|76=>150|80=>152|105=>253|116=>211|117=>212|119=>165|124=>248|127=>181|138=>280|139=>281|141=>195|146=>266|152=>190|154=>192|164=>216|171=>256|173=>260|193=>226|194=>227|196=>229|198=>232|201=>235|212=>269|213=>270|226=>262|227=>263|232=>283|233=>284|n=>n,fun|1=>2|3=>4|4=>5|6=>1|17=>3|18=>6|19=>7|n=>n⟩
def Tryz.lk{p:Prop}(h:p:=by first|kernel_rfl|decide|(intro w;kernel_rfl)|(intro w;rfl)):p:=h
def Tryz.lm{p:Prop}(h:p:=by constructor<;>first|exact Tryz.lk|(constructor<;>exact Tryz.lk)):p:=h
def Tryz.lays169:Go.Proofs.Lays.n169 Tryz.prog Tryz.rn:=Tryz.lm
def Tryz.Builder_Extra_169:Builder.Extra Tryz.prog Tryz.rn:=Tryz.lm
open Go.RowKit in
def Tryz.Builder_String_any(B b:Nat)(l:List UInt8)(w:World)(h:Lib.IsBuilder 147 5 B b (Lib.byteCells l) w)(hBw:B<=w.heap.size):
  Calls Tryz.prog 75 #[.pointer (some ⟨b,0,none⟩)] w fun e w'=>e=.returned (.string ⟨l.toArray⟩)/\Below B w w':=Any.Builder_String_any Tryz.lays169 Tryz.Builder_Extra_169 B b l w h hBw
def Tryz.lays156:Go.Proofs.Lays.n156 Tryz.prog Tryz.rn:=Tryz.lm
def Tryz.Builder_Extra_156:Builder.Extra Tryz.prog Tryz.rn:=Tryz.lm
open Go.RowKit in
def Tryz.strings_Join_none(a:Option Addr)(c:Nat)(sep:ByteArray)(w:World):
  Calls Tryz.prog 86 #[.slice a 0 c,.string sep] w fun e w'=>e=.returned (.string ⟨#[]⟩)/\w'=w:=Any.strings_Join_none Tryz.lays156 Tryz.Builder_Extra_156 a c sep w
open Go.RowKit in
def Tryz.strings_Join(bk o c:Nat)(xs:List ByteArray)(sep:ByteArray)(w:World)(AX:∀(j:Nat) x,xs[j]? = some x->w.cell? ⟨bk,o+j,none⟩=some (.string x))(hbk:bk<w.heap.size)(hN:xs.length<=140737488355328)(hcap:xs.length<=c)(mh:(Lib.join (xs.map (·.data.toList)) sep.data.toList).length<=140737488355328):
  Calls Tryz.prog 86 #[.slice (some ⟨bk,o,none⟩) xs.length c,.string sep] w fun e w'=>e=.returned (.string ⟨(Lib.join (xs.map (·.data.toList)) sep.data.toList).toArray⟩)/\Below w.heap.size w w':=Any.strings_Join Tryz.lays156 Tryz.Builder_Extra_156 bk o c xs sep w AX hbk hN hcap mh
def Tryz.lays119:Go.Proofs.Lays.n119 Tryz.prog Tryz.rn:=Tryz.lm
def Tryz.utf8_ValidRune(r:Int)(w:World):
  Calls Tryz.prog 182 #[.int .i32 r] w fun e w'=>e=.returned (.bool (Lib.validRune r))/\w'=w:=Any.utf8_ValidRune Tryz.lays119 r w
def Tryz.lays106:Go.Proofs.Lays.n106 Tryz.prog Tryz.rn:=Tryz.lm
open Go.RowKit in
def Tryz.strings_Compare(a b:ByteArray)(w:World):
  Calls Tryz.prog 94 #[.string a,.string b] w fun e w'=>e=.returned (.int .i64 (Lib.compareBytes a.data.toList b.data.toList))/\w'=w:=Any.strings_Compare Tryz.lays106 a b w
def Tryz.lays137:Go.Proofs.Lays.n137 Tryz.prog Tryz.rn:=Tryz.lm
open Go.RowKit in
def Tryz.strings_IndexByte(s:ByteArray)(c:Int)(w:World):
  Calls Tryz.prog 77 #[.string s,.int .u8 c] w fun e w'=>e=.returned (.int .i64 (Lib.indexByte s.data.toList c.toNat.toUInt8))/\w'=w:=Any.strings_IndexByte Tryz.lays137 s c w
def Tryz.lays122:Go.Proofs.Lays.n122 Tryz.prog Tryz.rn:=Tryz.lm
open Go.RowKit in
def Tryz.cmp_Compare_int(x y:Int)(w:World):
  Calls Tryz.prog 93 #[.int .i64 x,.int .i64 y] w fun e w'=>e=.returned (.int .i64 (Lib.compareInt x y))/\w'=w:=Any.cmp_Compare_int Tryz.lays122 x y w
def Tryz.laysM171:Go.Proofs.LaysM.n171 Tryz.prog Tryz.rn:=Tryz.lm
open Go.RowKit Go.Sort Go.Lib in
def Tryz.strconv_Itoa(n:Int)(h0 : -9223372036854775808<=n)(h1:n<=9223372036854775807)(w:World)(htab:Lib.TabIs Tryz.prog w "internal/strconv.uint64pow10" .u64 Lib.pow10Tab) :
  Calls Tryz.prog 87 #[.int .i64 n] w fun e w'=>e=.returned (.string ⟨(Lib.itoa n).toArray⟩)/\∃k os,w'=grow (w.drewN k) os:=Any.strconv_Itoa Tryz.laysM171 n h0 h1 w htab
def Tryz.lays144:Go.Proofs.Lays.n144 Tryz.prog Tryz.rn:=Tryz.lm
open Go.RowKit Go.Lib in
def Tryz.strings_Contains_one(s:ByteArray)(c:UInt8)(w:World):
  Calls Tryz.prog 81 #[.string s,.string ⟨#[c]⟩] w fun e w'=>e=.returned (.bool (decide (0<=Lib.indexByte s.data.toList c)))/\w'=w:=Any.strings_Contains_one Tryz.lays144 s c w
def Tryz.lays145:Go.Proofs.Lays.n145 Tryz.prog Tryz.rn:=Tryz.lm
open Go.RowKit Go.Lib in
def Tryz.strings_Cut(s sep:ByteArray)(m:Int)(w:World)(hs:s.size<4294967281)(hm:w.cell? ⟨2,0,none⟩=some (.int .i64 m)):
  Calls Tryz.prog 88 #[.string s,.string sep] w fun e w'=>e=.returned (.tuple #[.string ⟨(Lib.cut s.data.toList sep.data.toList).1.toArray⟩,.string ⟨(Lib.cut s.data.toList sep.data.toList).2.1.toArray⟩,.bool (Lib.cut s.data.toList sep.data.toList).2.2])/\∃n,w'=w.drewN n:=Any.strings_Cut Tryz.lays145 s sep m w hs hm
def Tryz.lays146:Go.Proofs.Lays.n146 Tryz.prog Tryz.rn:=Tryz.lm
open Go.RowKit Go.Lib in
def Tryz.strings_Split(s sep:ByteArray)(m:Int)(w:World)(hs:s.size<4294967281)(hm:w.cell? ⟨2,0,none⟩=some (.int .i64 m))(h1:1<=sep.size):
  Calls Tryz.prog 78 #[.string s,.string sep] w fun e w' =>
   e=.returned (.slice (some ⟨w.heap.size,0,none⟩) (Lib.countB s sep+1) (Lib.countB s sep+1))/\w'=w.alloc (.cells ((Lib.splitB sep 0 (Lib.countB s sep) s).map Value.string).toArray 9):=Any.strings_Split Tryz.lays146 (by kernel_rfl) s sep m w hs hm h1
def Tryz.laysM157:Go.Proofs.LaysM.n157 Tryz.prog Tryz.rn:=Tryz.lm
open Go.RowKit Go.Lib in
def Tryz.strings_Fields_laid(s:ByteArray)(w:World)(hs:s.size<4294967281)(hascii:∀(j:Nat) b,s.data.toList[j]? = some b->b.toNat<128)(htab:Lib.TabIs Tryz.prog w "strings.asciiSpace" .u8 Lib.asciiSpaceTab) :
  Calls Tryz.prog 50 #[.string s] w fun e w' =>
   e=.returned (.slice (some ⟨w.heap.size,0,none⟩) (Lib.fields s.data.toList).length (Lib.fields s.data.toList).length)/\w'=w.alloc (.cells ((Lib.fields s.data.toList).map fun l=>Value.string ⟨l.toArray⟩).toArray 9):=Any.strings_Fields_laid Tryz.laysM157 s w hs hascii htab
def Tryz.lays152:Go.Proofs.Lays.n152 Tryz.prog Tryz.rn:=Tryz.lm
open Go.RowKit Go.Lib in
def Tryz.strings_IndexRune_ascii(s:ByteArray)(r:Int)(w:World)(h0:0<=r)(h1:r<128):
  Calls Tryz.prog 148 #[.string s,.int .i32 r] w fun e w'=>e=.returned (.int .i64 (Lib.indexByte s.data.toList r.toNat.toUInt8))/\w'=w:=Any.strings_IndexRune_ascii Tryz.lays152 s r w h0 h1
def Tryz.lays226:Go.Proofs.Lays.n226 Tryz.prog Tryz.rn:=Tryz.lm
open Go.RowKit Go.Lib in
def Tryz.strings_shouldUseASCIISet(n:Int)(w:World):
  Calls Tryz.prog 149 #[.int .i64 n] w fun e w'=>e=.returned (.bool (decide (8<n)))/\w'=w:=Any.strings_shouldUseASCIISet Tryz.lays226 n w
def Tryz.lays153:Go.Proofs.Lays.n153 Tryz.prog Tryz.rn:=Tryz.lm
open Go.RowKit Go.Lib in
def Tryz.strings_IndexAny_long(hv116:∀w,(zeroValue 211).run Tryz.prog w=.ok (.agg (Array.replicate 256 (.bool false))) w)(s chars:ByteArray)(w:World)(h2:2<=chars.size)(h8:8<s.size)(hs:s.size<4294967281)(hcs:chars.size<4294967281)(hascii:∀(j:Nat) b,chars.data.toList[j]? = some b->b.toNat<128):
  Calls Tryz.prog 109 #[.string s,.string chars] w fun e w'=>e=.returned (.int .i64 (Lib.indexAny s.data.toList chars.data.toList))/\w'=((w.alloc (.cells (Lib.setCells chars.data.toList) 211)).alloc (.cells (Lib.setCells chars.data.toList) 211)):=Any.strings_IndexAny_long Tryz.lays153 hv116 (by kernel_rfl) s chars w h2 h8 hs hcs hascii
end Go.Proofs

namespace Go.Proofs.YtnldgmhdjancbaaGreatDoor
open Go.RowKit Go.Proofs.Tryz
def zaL(xs:List Bs):List Value:=xs.map fun x=>.string (bs x)
def zgJ(xs:List Bs):(zaL xs).length=xs.length:=by simp [zaL]
def zfX(xs:List Bs)(x:Bs):zaL (xs++[x])=zaL xs++[.string (bs x)]:=by simp [zaL]
def zhU(xs:List Bs)(j:Nat)(x:Bs)(h:xs[j]? = some x):(zaL xs)[j]? = some (.string (bs x)):=by simp [zaL,h]
def Strs(w:World)(v:Value)(xs:List Bs):Prop :=
 ∃a c,v=.slice a xs.length c/\xs.length<=c/\(0<xs.length->∃g o,a=some ⟨g,o,none⟩/\g<w.heap.size/\∀j x,xs[j]? = some x->w.cell? ⟨g,o+j,none⟩=some (.string (bs x)))
def Strs.kept{w w':World}{v:Value}{xs:List Bs}(h:Strs w v xs)(k:Kept w w'):Strs w' v xs:=by
 obtain⟨a,c,hv,hc,h3⟩:=h;refine⟨a,c,hv,hc,fun q=>?_⟩;obtain⟨g,o,ha,hg,kR⟩:=h3 q;exact⟨g,o,ha,aU hg k.size,fun j x hx=>(k.cell (p:=⟨g,o+j,none⟩) hg).trans (kR j x hx)⟩
def Strs.own{w:World}{base:Nat}{e:TypeId}{v:Value}{xs:List Bs}(h:w.ownsRow base e 1 v xs.length (zaL xs)):Strs w v xs:=by
 obtain⟨a,c,hv,hc,_,h3⟩:=zaZ h;refine⟨a,c,hv,hc,fun q=>?_⟩;obtain⟨g,ha,_,hg,kR⟩:=h3 q;exact⟨g,0,ha,hg,fun j x hx=>by rw[bP];exact kR j _ (zhU xs j x hx)⟩
def Strs.none_(w:World):Strs w (.slice none 0 0) []:=⟨none,0,rfl,aw _,fun q=>absurd q (by simp)⟩
def Tryz.infoStr:(prog.info? 9).map (fun i=>(i.zero,i.size,i.bytes))=some (some (.string ⟨#[]⟩),1,16):=by kernel_rfl
def zAo:∀(xs:List ByteArray) (ys:List Bs),xs.map (·.data.toList)=ys->xs=ys.map bs
 | [],ys,h=>by subst h;rfl
 | x::xs,ys,h=>by
  subst h;simp only[bd];rw[<- zAo xs _ rfl];rfl
def zqX(l:Bs)(c:UInt8)(w:World)(hg:Gnd w)(hl:l.length<=1000000000):Calls prog 78 #[.string (bs l),.string (bs [c])] w fun e w'=>e=.returned (.slice (some ⟨w.heap.size,0,none⟩) (zbB c l).length (zbB c l).length)/\w'=w.alloc (.cells (zaL (zbB c l)).toArray 9):=by
 obtain⟨m,hm⟩:=hg;refine(Tryz.strings_Split (bs l) (bs [c]) m w (by simp;omega) hm (by simp)).mono ?_;rintro e w' ⟨rfl,rfl⟩;have e1:Lib.countB (bs l) (bs [c])+1=(zbB c l).length:=(by rw[zd7];congr 1;exact zxN (bs l) c);have e2:(Lib.splitB (bs [c]) 0 (Lib.countB (bs l) (bs [c])) (bs l))=(zbB c l).map bs:=zAo _ _ (zxM (bs l) c);rw[e1,e2];refine⟨rfl,?_⟩;rw[List.map_map];rfl
def zd9(v:Value)(xs:List Bs)(sep:Bs)(w:World)(hv:Strs w v xs)(hN:xs.length<=1000000000)(mh:(Lib.join xs sep).length<=1000000000):Calls prog 86 #[v,.string (bs sep)] w fun e w'=>e=.returned (.string (bs (Lib.join xs sep)))/\Kept w w':=by
 obtain⟨a,c,rfl,hc,h3⟩:=hv;rcases dT xs.length with h0|h0
 .obtain rfl:xs=[]:=bD.1 h0;refine(Tryz.strings_Join_none a c (bs sep) w).mono ?_;rintro e w' ⟨rfl,rfl⟩;exact⟨rfl,Kept.refl _⟩
 .obtain⟨g,o,rfl,hg,kR⟩:=h3 h0;have hm:(xs.map bs).map (·.data.toList)=xs:=by
   rw[List.map_map];exact List.map_id xs
  have h:=Tryz.strings_Join g o c (xs.map bs) (bs sep) w (fun j x hx=>by
   rw[dy]at hx;cases hj:xs[j]? with
   | none=>rw[hj]at hx;cases hx
   | some y=>rw[hj]at hx;cases hx;exact kR j y hj) hg (by simp;omega) (by simpa using hc) (by rw[hm];simp;omega)
  rw[hm]at h;simp only[bm]at h;exact h
def Blk(w:World)(g:Nat)(t:TypeId)(cs:Array Value):Prop:=w.heap[g]? = some (.cells cs t (0,0))
def Blk.lt{w:World}{g:Nat}{t:TypeId}{cs:Array Value}(h:Blk w g t cs):g<w.heap.size:=by
 rcases bG g w.heap.size with q|q
 .exact q
 .unfold Blk at h;rw[bB q]at h;cases h
def Blk.cell{w:World}{g:Nat}{t:TypeId}{cs:Array Value}(h:Blk w g t cs)(i:Nat)(v:Value)(hi:cs[i]? = some v):w.cell? ⟨g,i,none⟩=some v:=by
 unfold Blk at h;simp only[World.cell?,h];simpa using hi
def Blk.free{w:World}{g:Nat}{t:TypeId}{cs:Array Value}(h:Blk w g t cs)(i:Nat):w.frozen? ⟨g,i,none⟩=false:=by
 unfold Blk at h;simp only[World.frozen?,h];simp
def Blk.kept{w w':World}{g:Nat}{t:TypeId}{cs:Array Value}(h:Blk w g t cs)(k:Kept w w'):Blk w' g t cs:=by
 have:=h.lt;unfold Blk at h ⊢;rw[k.block g this];exact h
def Blk.new(w:World)(t:TypeId)(cs:Array Value):Blk (w.alloc (.cells cs t)) w.heap.size t cs:=el w _
def Blk.alloc{w:World}{g:Nat}{t:TypeId}{cs:Array Value}(h:Blk w g t cs)(o:Obj):Blk (w.alloc o) g t cs:=h.kept (zaA w o)
def Blk.set{w:World}{g:Nat}{t:TypeId}{cs:Array Value}(h:Blk w g t cs)(i:Nat)(v:Value):Blk (w.setCell ⟨g,i,none⟩ v) g t (cs.setIfInBounds i v):=by
 unfold Blk at h ⊢;simp only[World.setCell,eu,h];simp
def Blk.other{w:World}{g:Nat}{t:TypeId}{cs:Array Value}(h:Blk w g t cs)(g' i:Nat)(v:Value)(lV:g≠g'):Blk (w.setCell ⟨g',i,none⟩ v) g t cs:=by
 unfold Blk at h ⊢;rw[Below.heap_setCell _ _ _ _ lV];exact h
def zbF{a w:World}(h:Kept a w)(g i:Nat)(v:Value)(hg:a.heap.size<=g):Kept a (w.setCell ⟨g,i,none⟩ v):=iD h hg v
def zc1(w:World)(a:Addr)(v:Value):(w.setCell a v).heap.size=w.heap.size:=by simp [World.setCell]
def zaM(c:UInt8)(l:Bs):Nat:=(l.takeWhile (· ≠ c)).length
def zj9:∀(l:Bs) (c:UInt8),(zaM c l<l.length/\Lib.index l [c]=zaM c l)\/(zaM c l=l.length/\Lib.index l [c] = -1)
 | [],c=>.inr ⟨rfl,rfl⟩
 | b::l,c=>by
  unfold Lib.index zaM;by_cases hb:c=b
  .subst hb;left;refine⟨by simp,?_⟩;have e:[c].isPrefixOf (c::l)=true:=(by simp [List.isPrefixOf]);rw[e];simp
  .have e:[c].isPrefixOf (b::l)=false:=(by simp [List.isPrefixOf,hb]);have e2:((b::l).takeWhile (· ≠ c)).length=zaM c l+1:=by
    rw[fS,ae (by simpa using fun q=>hb q.symm)];rfl
   rw[e,e2];simp only[dr,fe,az];rcases zj9 l c with⟨h1,h2⟩|⟨h1,h2⟩
   .left;have lV:¬ ((zaM c l:Int) == -1)=true:=(by simp only[bh];omega);exact⟨by omega,by rw[h2,aa lV];omega⟩
   .right;exact⟨by omega,by rw[h2];rfl⟩
def ztU(c:UInt8)(l:Bs)(h:zaM c l<l.length):l[zaM c l]=c:=by
 induction l with
 | nil=>simp at h
 | cons b l ih =>
  by_cases hb:b=c
  .subst hb;have e:zaM b (b::l)=0:=(by unfold zaM;simp);simp only[e];rfl
  .have e:zaM c (b::l)=zaM c l+1:=(by unfold zaM;rw[fS,ae (by simpa using hb)];rfl);simp only[e];exact ih (by rw[e]at h;simpa using h)
def zAp(l:Bs)(c:UInt8)(w:World)(hg:Gnd w)(hl:l.length<=1000000000):Calls prog 88 #[.string (bs l),.string (bs [c])] w fun e w' => e=.returned (.tuple (if zaM c l<l.length then #[.string (bs (l.take (zaM c l))),.string (bs (l.drop (zaM c l+1))),.bool true]else #[.string (bs l),.string (bs []),.bool false]))/\∃n,w'=w.drewN n:=by
 obtain⟨m,hm⟩:=hg;refine(Tryz.strings_Cut (bs l) (bs [c]) m w (by simp;omega) hm).mono ?_;rintro e w' ⟨rfl,hw⟩;refine⟨?_,hw⟩;simp only[zfW,zd8];unfold Lib.cut;rcases zj9 l c with⟨h1,h2⟩|⟨h1,h2⟩
 .rw[ae (by rw[h2];omega),ae h1,h2];simp
 .rw[aa (by rw[h2];omega),aa (by omega)]
end Go.Proofs.YtnldgmhdjancbaaGreatDoor

namespace Go.Proofs
def Tryz.bld166_ren:Go.Shelf.Ren:=⟨fun|166=>74|240=>111|276=>155|n=>n,fun|0=>0|3=>3|4=>4|5=>5|9=>9|20=>20|37=>145|70=>144|72=>147|75=>149|76=>150|80=>152|164=>216|n=>n,fun|n=>n⟩
def Tryz.bld166:Lays.n166 Tryz.prog Tryz.bld166_ren:={
 mixed:=by kernel_rfl
 f166:=Tryz.func74.trans (congrArg some (by kernel_rfl))
 f240:=Tryz.func111.trans (congrArg some (by kernel_rfl))
 f276:=Tryz.func155.trans (congrArg some (by kernel_rfl))
 t0:=Tryz.underlying0
 a0:=Tryz.isAgg0
 z0:=Tryz.sizeOf0
 v0:=Tryz.zeroValue0
 t3:=Tryz.underlying3
 a3:=Tryz.isAgg3
 z3:=Tryz.sizeOf3
 v3:=Tryz.zeroValue3
 t4:=Tryz.underlying4
 a4:=Tryz.isAgg4
 z4:=Tryz.sizeOf4
 v4:=Tryz.zeroValue4
 t9:=Tryz.underlying9
 a9:=Tryz.isAgg9
 z9:=Tryz.sizeOf9
 v9:=Tryz.zeroValue9
 t20:=Tryz.underlying20
 a20:=Tryz.isAgg20
 z20:=Tryz.sizeOf20
 v20:=Tryz.zeroValue20
 t37:=Tryz.underlying145
 a37:=Tryz.isAgg145
 z37:=Tryz.sizeOf145
 v37:=Tryz.zeroValue145
 t70:=Tryz.underlying144
 a70:=Tryz.isAgg144
 z70:=Tryz.sizeOf144
 v70:=Tryz.zeroValue144
 t72:=Tryz.underlying147
 a72:=Tryz.isAgg147
 z72:=Tryz.sizeOf147
 v72:=Tryz.zeroValue147
 t75:=Tryz.underlying149
 a75:=Tryz.isAgg149
 z75:=Tryz.sizeOf149
 v75:=Tryz.zeroValue149
 t164:=Tryz.underlying216
 a164:=Tryz.isAgg216
 z164:=Tryz.sizeOf216
 v164:=Tryz.zeroValue216
}
def Tryz.bldX166:Builder.Extra Tryz.prog Tryz.bld166_ren:={
 sizeBuilder:=by kernel_rfl
 liesBuilder:=by kernel_rfl
 t5:=Tryz.underlying5
 a5:=Tryz.isAgg5
 z5:=Tryz.sizeOf5
 v5:=Tryz.zeroValue5
 infoByte:=by kernel_rfl
 cellsByte:=by kernel_rfl
 sizeByte:=by kernel_rfl
 neB5:=by decide }
end Go.Proofs

namespace Go.Proofs.YtnldgmhdjancbaaGreatDoor
open Go.RowKit Go.Proofs.Tryz
def zjK(B b:Nat)(cs:List Value)(l:Bs)(w:World)(h:Lib.IsBuilder 147 5 B b cs w)(hl:cs.length+l.length<=140737488355328)(hB:B<=w.heap.size):Calls prog 74 #[.pointer (some ⟨b,0,none⟩),.string (bs l)] w fun e w'=>e=.returned (.tuple #[.int .i64 l.length,.nilIface])/\(Lib.BuilderAt 147 5 B b (.pointer (some ⟨b,0,none⟩)) (cs++Lib.byteCells l) w'/\Below B w w') :=
 Any.Builder_WriteString Tryz.bld166 Tryz.bldX166 B b cs (bs l) w h (by simpa using hl) hB
def af:=@Kept.refl
def aI:=@Blk.new
def dq:=@Kept.trans
def eZ:=@Strs.none_
def fQ:=@Tryz.strings_Contains_one
def fR:=@Tryz.utf8_ValidRune
def gt:=@Tryz.strings_shouldUseASCIISet
def gI:=@Tryz.strings_IndexRune_ascii
def gR:=@Tryz.strings_IndexAny_long
def gU:=@Strs.own
def iO:=@Tryz.strings_IndexByte
def je:=@Tryz.strings_Compare
def jh:=@Tryz.cmp_Compare_int
def jJ:=@Tryz.strings_Split
def a_{p:Prop}(h:p:=by omega):p:=h
def b_{p:Prop}(h:p:=by simp):p:=h
def c_{p:Prop}(h:p:=by decide):p:=h
def d_{p:Prop}(h:p:=by rfl):p:=h
def e_{p:Prop}(h:p:=by simp;omega):p:=h
def f_{p:Prop}(h:p:=by decide +kernel):p:=h
def g_{p:Prop}(h:p:=by kernel_rfl):p:=h
def h_{p:Prop}(h:p:=by unfold maxLen;omega):p:=h
def i_{p:Prop}(h:p:=by first|omega|(simp;omega)):p:=h
def j_{p:Prop}(h:p:=by simp [IntKind.wrap,IntKind.signed,IntKind.bits];omega):p:=h
def j'{p:Prop}(h:p:=by intro u hu;simp at hu;first|(subst hu;rfl)|(rcases hu with rfl|rfl<;>rfl)):p:=h
def k_{P:Program}{f:FuncId}{a:Array Value}{w:World}{v:Value}{Q:World->Prop}{R:Ending->World->Prop}(h:Calls P f a w fun e w'=>e=.returned v/\Q w')(k:∀w',Q w'->R (.returned v) w'):Calls P f a w R:=h.mono fun e w' ⟨x,q⟩=>x▸k w' q
end Go.Proofs.YtnldgmhdjancbaaGreatDoor
