/- isName of package bib. No condition. -/
import Derived.Test.YtmcoomlkbgiboaaGreatDoorK17
import Derived.Test.YtmcoomlkbgiboaaGreatDoorK01
import Derived.Test.YtmcoomlkbgiboaaGreatDoorK03
import Derived.Deep.AppendLies
import Derived.Deep.RegionHeld3
import Derived.Deep.RegionLaw
import Derived.Sort.WalkA
import Derived.Sort.LotA

set_option linter.all false
namespace Go.Proofs.YtmcoomlkbgiboaaGreatDoor
open Go.RowKit

def letB (b:UInt8):Bool:=decide (97≤b.toNat∧b.toNat≤122) || decide (65≤b.toNat∧b.toNat≤90)
def nmB (b:UInt8):Bool:=letB b || digB b || b == 45 || b == 95 || b == 46 || b == 58
/-- Is a text a name? -/
def nameB (l:Bs):Bool:=decide (l.length≤60) && (match l with | []=>false | b :: _=>letB b) && l.all nmB
def lttI (c:Int):Prop:=97≤c∧c≤122∨65≤c∧c≤90
def restI (c:Int):Prop:=48≤c∧c≤57∨c=45∨c=95∨c=46∨c=58
def badI (c:Int):Prop:=c<45∨c=47∨59≤c∧c≤64∨91≤c∧c≤94∨c=96∨122<c
theorem cls (c:Int):lttI c∨restI c∨badI c:=by unfold lttI restI badI; omega
theorem let_at (l:Bs) (i:Nat) (h:i<l.length):letB l[i]=true↔lttI (at8 l i):=by
 rw [at8_get l i h]; unfold lttI; simp [letB]; omega
theorem nm_at (l:Bs) (i:Nat) (h:i<l.length):nmB l[i]=true↔lttI (at8 l i)∨restI (at8 l i):=by
 have e:=let_at l i h
 have d:=dig_at l i h
 have q:∀ n:Nat,n<256→((l[i] == UInt8.ofNat n)=true↔at8 l i=n):=by
  intro n hn
  constructor
  ·intro q; rw [at8_get l i h]; exact (u8_int _ n hn).2 (by simpa using q)
  ·intro q; rw [at8_get l i h] at q; simpa using (u8_int _ n hn).1 q
 have q1:=q 45 (by omega)
 have q2:=q 95 (by omega)
 have q3:=q 46 (by omega)
 have q4:=q 58 (by omega)
 unfold nmB
 simp only [Bool.or_eq_true,e,d]
 unfold restI
 constructor
 ·rintro (((((h | h) | h) | h) | h) | h)
  ·exact .inl h
  ·exact .inr (.inl h)
  ·exact .inr (.inr (.inl (by simpa using q1.1 h)))
  ·exact .inr (.inr (.inr (.inl (by simpa using q2.1 h))))
  ·exact .inr (.inr (.inr (.inr (.inl (by simpa using q3.1 h)))))
  ·exact .inr (.inr (.inr (.inr (.inr (by simpa using q4.1 h)))))
 ·rintro (h | h | h | h | h | h)
  ·exact .inl (.inl (.inl (.inl (.inl h))))
  ·exact .inl (.inl (.inl (.inl (.inr h))))
  ·exact .inl (.inl (.inl (.inr (q1.2 (by simpa using h)))))
  ·exact .inl (.inl (.inr (q2.2 (by simpa using h))))
  ·exact .inl (.inr (q3.2 (by simpa using h)))
  ·exact .inr (q4.2 (by simpa using h))
/-- What a beginning of a name is. -/
def NameSt (l:Bs) (k:Nat):Prop:=(l.take k).all nmB=true∧(0<k→∀ h:0<l.length,letB l[0]=true)
theorem NameSt.start (l:Bs):NameSt l 0:=⟨rfl,fun h=>by omega⟩
theorem NameSt.letter {l:Bs} {k:Nat} (h:NameSt l k) (hk:k<l.length) (hc:lttI (at8 l k)):NameSt l (k+1):=by
 refine ⟨?_,fun _ h0=>?_⟩
 ·rw [take_next l k hk,List.all_append,h.1]
  simp [(nm_at l k hk).2 (.inl hc)]
 ·by_cases q:k=0
  ·subst q; exact (let_at l 0 hk).2 hc
  ·exact h.2 (by omega) h0
theorem NameSt.other {l:Bs} {k:Nat} (h:NameSt l k) (hk:k<l.length) (h0:0<k) (hc:restI (at8 l k)):NameSt l (k+1):=by
 refine ⟨?_,fun _ h1=>h.2 h0 h1⟩
 rw [take_next l k hk,List.all_append,h.1]
 simp [(nm_at l k hk).2 (.inr hc)]
theorem nameB_cons (l:Bs) (h:0<l.length):nameB l=(decide (l.length≤60) && letB l[0] && l.all nmB):=by
 cases l with
 | nil=>simp at h
 | cons b r=>rfl
theorem NameSt.bad {l:Bs} {k:Nat} (hk:k<l.length) (hc:¬ (lttI (at8 l k)∨restI (at8 l k))):nameB l=false:=by
 rw [nameB_cons l (by omega)]
 have:l.all nmB=false:=by
  rw [List.all_eq_false]
  exact ⟨l[k],List.getElem_mem hk,fun q=>hc ((nm_at l k hk).1 q)⟩
 rw [this]; simp
theorem NameSt.first {l:Bs} (hk:0<l.length) (hc:¬ lttI (at8 l 0)):nameB l=false:=by
 rw [nameB_cons l hk]
 have:letB l[0]=false:=by
  cases q:letB l[0]
  ·rfl
  ·exact absurd ((let_at l 0 hk).1 q) hc
 rw [this]; simp
theorem NameSt.done {l:Bs} (h:NameSt l l.length) (h60:l.length≤60):nameB l = !l.isEmpty:=by
 cases l with
 | nil=>rfl
 | cons b r =>
  rw [nameB_cons _ (by simp)]
  have h1:=h.1
  rw [List.take_of_length_le (Nat.le_refl _)] at h1
  rw [h1,h.2 (by simp) (by simp)]
  simp at h60
  simp; omega
theorem dec_cls (l:Bs) (i:Nat) (hi:i<l.length) (h:lttI (at8 l i)∨restI (at8 l i)):dec (bs l) i=(at8 l i,1):=dec_low l i (by unfold lttI restI at h; omega)
theorem dec_bad (l:Bs) (i:Nat) (h:¬ (lttI (at8 l i)∨restI (at8 l i))):badI (dec (bs l) i).1:=by
 by_cases q:at8 l i<128
 ·rw [dec_low l i q]
  rcases cls (at8 l i) with h1 | h1 | h1
  ·exact absurd (.inl h1) h
  ·exact absurd (.inr h1) h
  ·exact h1
 ·have:=dec_hi l i (by omega)
  unfold badI; omega

set_option maxRecDepth 100000 in
set_option maxHeartbeats 6400000 in
theorem isName_any (l:Bs) (w:World) (hl:l.length≤1100000):Calls Tryz.prog 125 #[.string (bs l)] w fun e w'=>e=.returned (.bool (nameB l))∧Kept w w':=by
 by_cases h60:l.length≤60
 ·go_enter Tryz.func125,Tryz.ntmps125
  go_wp2_with fail
  go_loopw [2] (fun r wr=>∃ pos:Nat,pos≤l.length∧r=.bool false∧wr.heap[w.heap.size]? = some (.stringIter (bs l) pos)∧Kept w wr∧Hid (NameSt l pos)) (fun _ wr=>l.length - wr.iterPos w.heap.size)
  case atStart=>exact ⟨0,Nat.zero_le _,rfl,by have:=World.iter_heap w (bs l) 0; simpa using this,kept_alloc _ _,NameSt.start l⟩
  case round =>
   obtain ⟨pos,hp,rfl,hit,hk,HA⟩:=hrel
   by_cases hlt:pos<l.length
   ·have nx:=fun ty=>run_next_k (P:=Tryz.prog) wr w.heap.size (bs l) pos ty hit hlt
    by_cases hc:lttI (at8 l pos)∨restI (at8 l pos)
    ·rw [dec_cls l pos hlt hc] at nx
     simp only [show ((1:Int).toNat)=1 from rfl] at nx
     obtain ⟨q1,q2,q3,q4⟩:=iter_next w wr w.heap.size l pos 1 hit hk (Nat.le_refl _)
     have HQ1:=Lib.hid q1
     have HQ2:=Lib.hid q2
     have HQ3:=Lib.hid q3
     have HQ4:=Lib.hid q4
     generalize wr.iterAt w.heap.size (bs l) (pos+1)=wq at *
     clear q1 q2 q3 q4 hit hk
     by_cases hcl:lttI (at8 l pos)
     ·have HN:=Lib.hid (HA.out.letter hlt hcl)
      generalize at8 l pos=c at *
      clear HA hc
      unfold lttI at hcl
      rcases hcl with ⟨g1,g2⟩ | ⟨g1,g2⟩
      all_goals
       go_wp2_with fail
       go_roundw
       case rel=>exact ⟨pos+1,by omega,rfl,HQ1.out,HQ2.out,HN.out⟩
       case measure=>rw [HQ3.out,HQ4.out]; omega
     ·have hcr:restI (at8 l pos):=by rcases hc with h | h; exact absurd h hcl; exact h
      by_cases hz:pos=0
      ·subst hz
       have HZ:=Lib.hid (NameSt.first hlt hcl)
       generalize at8 l 0=c at *
       clear HA hc hcl
       unfold restI at hcr
       rcases hcr with ⟨g1,g2⟩ | rfl | rfl | rfl | rfl
       all_goals
        go_wp2_with fail
        go_ret
        exact ⟨ret_bool HZ.out.symm,HQ2.out⟩
      ·have hz':((pos:Int) == 0)=false:=by rw [beq_eq_false_iff_ne]; omega
       have HN:=Lib.hid (HA.out.other hlt (by omega) hcr)
       generalize at8 l pos=c at *
       clear HA hc hcl
       unfold restI at hcr
       rcases hcr with ⟨g1,g2⟩ | rfl | rfl | rfl | rfl
       all_goals
        go_wp2_with fail
        go_roundw
        case rel=>exact ⟨pos+1,by omega,rfl,HQ1.out,HQ2.out,HN.out⟩
        case measure=>rw [HQ3.out,HQ4.out]; omega
    ·have HZ:=Lib.hid (NameSt.bad hlt hc)
     have hbad:=dec_bad l pos hc
     obtain ⟨q1,q2,q3,q4⟩:=iter_next w wr w.heap.size l pos (dec (bs l) pos).2.toNat hit hk (Nat.le_refl _)
     have HQ2:=Lib.hid q2
     generalize wr.iterAt w.heap.size (bs l) (pos+(dec (bs l) pos).2.toNat)=wq at *
     generalize (dec (bs l) pos).1=c at *
     clear hc HA q1 q2 q3 q4 hit hk
     unfold badI at hbad
     have hz:((pos:Int) == 0)=true∨((pos:Int) == 0)=false:=by cases ((pos:Int) == 0) <;> simp
     rcases hz with hz | hz <;> rcases hbad with g | rfl | ⟨g1,g2⟩ | ⟨g1,g2⟩ | rfl | g
     all_goals
      go_wp2_with fail
      go_ret
      exact ⟨ret_bool HZ.out.symm,HQ2.out⟩
   ·have nx:=fun ty=>run_next_k_end (P:=Tryz.prog) wr w.heap.size (bs l) pos ty hit (by simpa using hlt)
    obtain rfl:pos=l.length:=by omega
    have HZ:=Lib.hid (HA.out.done h60)
    have HR:=Lib.hid hk
    clear hk HA hit
    by_cases he:l=[]
    ·subst he
     go_wp2_with fail
     go_ret
     exact ⟨ret_bool (by rw [HZ.out]; rfl),HR.out⟩
    ·have hee:l.isEmpty=false:=by simpa using he
     go_wp2_with fail
     go_ret
     exact ⟨ret_bool (by rw [HZ.out,hee]; first | rfl | simp [hee]),HR.out⟩
 ·have HZ:Hid (nameB l=false):=by show _=_; unfold nameB; rw [decide_eq_false h60]; rfl
  go_enter Tryz.func125,Tryz.ntmps125
  go_wp2_with fail
  go_ret
  exact ⟨ret_bool HZ.out.symm,Kept.refl _⟩
end Go.Proofs.YtmcoomlkbgiboaaGreatDoor

/- Worlds that differ at some blocks alone; rows of persons and of pairs; bib.addPerson. Conditions: lengths. -/
set_option linter.all false
namespace Go.Proofs.YtmcoomlkbgiboaaGreatDoor
open Go.RowKit

def persC (ps:List P4):List Value:=ps.flatMap fun q=>[.string (bs q.1),.string (bs q.2.1),.string (bs q.2.2.1),.string (bs q.2.2.2)]
theorem persC_at (ps:List P4) (j:Nat) (q:P4) (h:ps[j]? = some q):(persC ps)[j * 4]? = some (.string (bs q.1))∧(persC ps)[j * 4+1]? = some (.string (bs q.2.1))∧(persC ps)[j * 4+2]? = some (.string (bs q.2.2.1))∧(persC ps)[j * 4+3]? = some (.string (bs q.2.2.2)):=by
 induction ps generalizing j with
 | nil=>cases h
 | cons p ps ih =>
  have e:persC (p :: ps)=[.string (bs p.1),.string (bs p.2.1),.string (bs p.2.2.1),.string (bs p.2.2.2)] ++ persC ps:=by simp [persC]
  rw [e]
  cases j with
  | zero=>cases h; exact ⟨rfl,rfl,rfl,rfl⟩
  | succ j =>
   have:=ih j (by simpa using h)
   rw [List.getElem?_append_right (by simp; omega),List.getElem?_append_right (by simp; omega),List.getElem?_append_right (by simp; omega),List.getElem?_append_right (by simp; omega)]
   simp only [List.length_cons,List.length_nil]
   rw [show (j+1) * 4 - (0+1+1+1+1)=j * 4 from by omega,show (j+1) * 4+1 - (0+1+1+1+1)=j * 4+1 from by omega,show (j+1) * 4+2 - (0+1+1+1+1)=j * 4+2 from by omega,show (j+1) * 4+3 - (0+1+1+1+1)=j * 4+3 from by omega]
   exact this
theorem Perss.own {w:World} {base:Nat} {e:TypeId} {v:Value} {ps:List P4} (h:w.ownsRow base e 4 v ps.length (persC ps)):Perss w v ps:=by
 obtain ⟨a,c,hv,hc,_,h3⟩:=own_cap h
 refine ⟨a,c,hv,hc,fun q=>?_⟩
 obtain ⟨g,ha,_,hg,hcell⟩:=h3 q
 refine ⟨g,0,ha,hg,fun j x hx=>?_⟩
 obtain ⟨c0,c1,c2,c3⟩:=persC_at ps j x hx
 simp only [Nat.zero_add]
 exact ⟨hcell _ _ c0,hcell _ _ c1,hcell _ _ c2,hcell _ _ c3⟩
theorem Tryz.infoPers:(Tryz.prog.info? 77).map (fun i=>(i.zero,i.size,i.bytes))=some (some (.agg #[.string ⟨#[]⟩,.string ⟨#[]⟩,.string ⟨#[]⟩,.string ⟨#[]⟩]),4,64):=by kernel_rfl
end Go.Proofs.YtmcoomlkbgiboaaGreatDoor

/- (*reader).add of package bib. Conditions: lengths. -/
set_option linter.all false
namespace Go.Proofs.YtmcoomlkbgiboaaGreatDoor
open Go.RowKit

/-- A source: key, type, authors, editors, fields. -/
structure SrcT where
 key:Bs
 type:Bs
 author:List P4
 editor:List P4
 fields:List Pr
end Go.Proofs.YtmcoomlkbgiboaaGreatDoor

/- Sorting by insertion, in plain Lean, over any comparison. Conditions: what is asked of the comparison. -/
set_option linter.all false
namespace Go.Proofs.YtmcoomlkbgiboaaGreatDoor
open Go.Sort

section
variable {α:Type} (cf:α→α→Int)
/-- x put in from behind: what stands behind is greater. -/
def insR (x:α):List α→List α
 | []=>[x]
 | y :: ys=>if 0<cf y x then y :: insR x ys else x :: y :: ys
def insS (out:List α) (x:α):List α:=(insR cf x out.reverse).reverse
def sortS (l:List α):List α:=l.foldl (insS cf) []
/-- What is asked of a comparison. -/
structure PreO:Prop where
 anti:∀ x y,cf x y<0↔0<cf y x
 trans:∀ x y z,cf x y≤0→cf y z≤0→cf x z≤0
variable {cf}
theorem insR_perm (x:α):∀ l:List α,(insR cf x l).Perm (x :: l)
 | []=>.refl _
 | y :: ys=>by
  show (if 0<cf y x then y :: insR cf x ys else x :: y :: ys).Perm _
  split
  ·exact ((insR_perm x ys).cons y).trans (List.Perm.swap x y ys)
  ·exact .refl _
theorem insS_perm (out:List α) (x:α):(insS cf out x).Perm (x :: out):=by
 unfold insS
 exact (List.reverse_perm _).trans ((insR_perm x _).trans ((List.reverse_perm out).cons x))
theorem sortS_perm (l:List α):(sortS cf l).Perm l:=by
 have key:∀ (l out:List α),(l.foldl (insS cf) out).Perm (out ++ l):=by
  intro l
  induction l with
  | nil=>intro out; simp
  | cons x l ih =>
   intro out
   refine (ih _).trans ?_
   refine ((insS_perm out x).append_right l).trans ?_
   have h:=(List.perm_middle (a:=x) (l₁:=out) (l₂:=l)).symm
   exact h
 exact key l []
theorem sortS_len (l:List α):(sortS cf l).length=l.length:=(sortS_perm l).length_eq
theorem sortS_snoc (l:List α) (x:α):sortS cf (l ++ [x])=insS cf (sortS cf l) x:=by unfold sortS; rw [List.foldl_append]; rfl
/-! The library's insertion sort. -/
def ltS (cf:α→α→Int) (x y:α):Bool:=decide (cf x y<0)
variable [Inhabited α]
theorem toListS {d:Array α} {i:Nat} {x:α} (h:d.toList[i]? = some x):d[i]! = x:=by
 rw [Array.getElem?_toList] at h
 rw [getElem!_def,h]
theorem swp_toS (d:Array α) (out:List α) (y x:α) (rest:List α) (h:d.toList=out ++ y :: x :: rest):(swp d (out.length+1) out.length).toList=out ++ x :: y :: rest:=by
 have hy:d[out.length]! = y:=toListS (by rw [h]; simp)
 have hx:d[out.length+1]! = x:=toListS (by rw [h]; simp)
 unfold swp
 rw [Array.toList_setIfInBounds,Array.toList_setIfInBounds,hy,hx,h]
 simp
theorem insInner_toS (h:∀ x y,cf x y<0↔0<cf y x):∀ (n:Nat) (d:Array α) (out:List α) (x:α) (rest:List α),out.length=n→d.toList=out ++ x :: rest→(insInner (ltS cf) 0 n d).toList=insS cf out x ++ rest:=by
 intro n
 induction n with
 | zero =>
  intro d out x rest hn hd
  obtain rfl:=List.length_eq_zero_iff.1 hn
  rw [insInner_stop _ _ _ _ (.inl (Nat.le_refl _)),hd]; rfl
 | succ n ih =>
  intro d out x rest hn hd
  obtain ⟨o,y,rfl⟩:∃ o y,out=o ++ [y]:=⟨out.dropLast,out.getLast (by intro q; subst q; cases hn),(List.dropLast_concat_getLast _).symm⟩
  have hl:o.length=n:=by simpa using hn
  have hd':d.toList=o ++ y :: x :: rest:=by rw [hd]; simp
  have hy:d[n]! = y:=toListS (by rw [hd',← hl]; simp)
  have hx:d[n+1]! = x:=toListS (by rw [hd',← hl]; simp)
  have e:insS cf (o ++ [y]) x=if 0<cf y x then insS cf o x ++ [y] else o ++ [y] ++ [x]:=by
   unfold insS
   rw [List.reverse_append]
   show ((if 0<cf y x then y :: insR cf x o.reverse else x :: y :: o.reverse)).reverse=_
   split <;> simp
  by_cases q:0<cf y x
  ·rw [insInner_go _ _ _ _ (by omega) (by rw [hx,show n+1 - 1=n from rfl,hy]; exact decide_eq_true ((h x y).2 q)),show n+1 - 1=n from rfl]
   have hs:=swp_toS d o y x rest hd'
   rw [hl] at hs
   rw [ih _ o x (y :: rest) hl hs,e,if_pos q]
   simp
  ·rw [insInner_stop _ _ _ _ (.inr (by rw [hx,show n+1 - 1=n from rfl,hy]; exact decide_eq_false (fun r=>q ((h x y).1 r)))),e,if_neg q,hd]
   simp
theorem insOuter_toS (h:∀ x y,cf x y<0↔0<cf y x) (b:Nat):∀ (n i:Nat) (d:Array α) (done rest:List α),b - i=n→i≤b→done.length=i→rest.length=b - i→d.toList=sortS cf done ++ rest→(insOuter (ltS cf) 0 b i d).toList=sortS cf (done ++ rest):=by
 intro n
 induction n with
 | zero =>
  intro i d done rest hn hi hl hr hd
  obtain rfl:=List.length_eq_zero_iff.1 (show rest.length=0 by omega)
  rw [insOuter_stop _ _ _ _ _ (by omega),hd]; simp
 | succ n ih =>
  intro i d done rest hn hi hl hr hd
  cases rest with
  | nil=>simp at hr; omega
  | cons x rest =>
   rw [insOuter_go _ _ _ _ _ (by omega)]
   have h1:=insInner_toS h i d (sortS cf done) x rest (by rw [sortS_len,hl]) hd
   rw [← sortS_snoc] at h1
   have h2:=ih (i+1) (insInner (ltS cf) 0 i d) (done ++ [x]) rest (by omega) (by omega) (by simp [hl]) (by simp at hr; omega) h1
   rw [h2]; simp
theorem insertion_toS (h:∀ x y,cf x y<0↔0<cf y x) (l:List α):(insertionSort (ltS cf) l.toArray 0 l.length).toList=sortS cf l:=by
 unfold insertionSort
 cases l with
 | nil=>rw [insOuter_stop _ _ _ _ _ (by simp)]; rfl
 | cons x l =>
  have:=insOuter_toS h (x :: l).length l.length 1 (x :: l).toArray [x] l (by simp) (by simp) rfl (by simp) rfl
  exact this
end
end Go.Proofs.YtmcoomlkbgiboaaGreatDoor
