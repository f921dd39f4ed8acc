/- isName of package bib. No condition. -/
import Derived.Test.YtmcoomlkbgiboaaGreatDoorU09
import Derived.Test.YtmcoomlkbgiboaaGreatDoorU07
import Derived.Test.YtmcoomlkbgiboaaGreatDoorU08
import Derived.Deep.AppendLies
import Derived.Deep.RegionHeld3
import Derived.Lib.SliceRun
import Derived.Deep.RegionLaw

set_option linter.all false
namespace Go.Proofs.YtmcoomlkbgiboaaGreatDoor
open Go.RowKit

def letB (b:UInt8):Bool:=decide (97≤b.toNat∧b.toNat≤122) || decide (65≤b.toNat∧b.toNat≤90)
def nmB (b:UInt8):Bool:=letB b || digB b || b == 45 || b == 95 || b == 46 || b == 58
/-- Is a text a name? -/
def nameB (l:Bs):Bool:=decide (l.length≤60) && (match l with | []=>false | b :: _=>letB b) && l.all nmB
def lttI (c:Int):Prop:=97≤c∧c≤122∨65≤c∧c≤90
def restI (c:Int):Prop:=48≤c∧c≤57∨c=45∨c=95∨c=46∨c=58
def badI (c:Int):Prop:=c<45∨c=47∨59≤c∧c≤64∨91≤c∧c≤94∨c=96∨122<c
theorem cls (c:Int):lttI c∨restI c∨badI c:=by unfold lttI restI badI; omega
theorem let_at (l:Bs) (i:Nat) (h:i<l.length):letB l[i]=true↔lttI (at8 l i):=by
 rw [at8_get l i h]; unfold lttI; simp [letB]; omega
theorem nm_at (l:Bs) (i:Nat) (h:i<l.length):nmB l[i]=true↔lttI (at8 l i)∨restI (at8 l i):=by
 have e:=let_at l i h
 have d:=dig_at l i h
 have q:∀ n:Nat,n<256→((l[i] == UInt8.ofNat n)=true↔at8 l i=n):=by
  intro n hn
  constructor
  ·intro q; rw [at8_get l i h]; exact (u8_int _ n hn).2 (by simpa using q)
  ·intro q; rw [at8_get l i h] at q; simpa using (u8_int _ n hn).1 q
 have q1:=q 45 (by omega)
 have q2:=q 95 (by omega)
 have q3:=q 46 (by omega)
 have q4:=q 58 (by omega)
 unfold nmB
 simp only [Bool.or_eq_true,e,d]
 unfold restI
 constructor
 ·rintro (((((h | h) | h) | h) | h) | h)
  ·exact .inl h
  ·exact .inr (.inl h)
  ·exact .inr (.inr (.inl (by simpa using q1.1 h)))
  ·exact .inr (.inr (.inr (.inl (by simpa using q2.1 h))))
  ·exact .inr (.inr (.inr (.inr (.inl (by simpa using q3.1 h)))))
  ·exact .inr (.inr (.inr (.inr (.inr (by simpa using q4.1 h)))))
 ·rintro (h | h | h | h | h | h)
  ·exact .inl (.inl (.inl (.inl (.inl h))))
  ·exact .inl (.inl (.inl (.inl (.inr h))))
  ·exact .inl (.inl (.inl (.inr (q1.2 (by simpa using h)))))
  ·exact .inl (.inl (.inr (q2.2 (by simpa using h))))
  ·exact .inl (.inr (q3.2 (by simpa using h)))
  ·exact .inr (q4.2 (by simpa using h))
/-- What a beginning of a name is. -/
def NameSt (l:Bs) (k:Nat):Prop:=(l.take k).all nmB=true∧(0<k→∀ h:0<l.length,letB l[0]=true)
theorem NameSt.start (l:Bs):NameSt l 0:=⟨rfl,fun h=>by omega⟩
theorem NameSt.letter {l:Bs} {k:Nat} (h:NameSt l k) (hk:k<l.length) (hc:lttI (at8 l k)):NameSt l (k+1):=by
 refine ⟨?_,fun _ h0=>?_⟩
 ·rw [take_next l k hk,List.all_append,h.1]
  simp [(nm_at l k hk).2 (.inl hc)]
 ·by_cases q:k=0
  ·subst q; exact (let_at l 0 hk).2 hc
  ·exact h.2 (by omega) h0
theorem NameSt.other {l:Bs} {k:Nat} (h:NameSt l k) (hk:k<l.length) (h0:0<k) (hc:restI (at8 l k)):NameSt l (k+1):=by
 refine ⟨?_,fun _ h1=>h.2 h0 h1⟩
 rw [take_next l k hk,List.all_append,h.1]
 simp [(nm_at l k hk).2 (.inr hc)]
theorem nameB_cons (l:Bs) (h:0<l.length):nameB l=(decide (l.length≤60) && letB l[0] && l.all nmB):=by
 cases l with
 | nil=>simp at h
 | cons b r=>rfl
theorem NameSt.bad {l:Bs} {k:Nat} (hk:k<l.length) (hc:¬ (lttI (at8 l k)∨restI (at8 l k))):nameB l=false:=by
 rw [nameB_cons l (by omega)]
 have:l.all nmB=false:=by
  rw [List.all_eq_false]
  exact ⟨l[k],List.getElem_mem hk,fun q=>hc ((nm_at l k hk).1 q)⟩
 rw [this]; simp
theorem NameSt.first {l:Bs} (hk:0<l.length) (hc:¬ lttI (at8 l 0)):nameB l=false:=by
 rw [nameB_cons l hk]
 have:letB l[0]=false:=by
  cases q:letB l[0]
  ·rfl
  ·exact absurd ((let_at l 0 hk).1 q) hc
 rw [this]; simp
theorem NameSt.done {l:Bs} (h:NameSt l l.length) (h60:l.length≤60):nameB l = !l.isEmpty:=by
 cases l with
 | nil=>rfl
 | cons b r =>
  rw [nameB_cons _ (by simp)]
  have h1:=h.1
  rw [List.take_of_length_le (Nat.le_refl _)] at h1
  rw [h1,h.2 (by simp) (by simp)]
  simp at h60
  simp; omega
theorem dec_cls (l:Bs) (i:Nat) (hi:i<l.length) (h:lttI (at8 l i)∨restI (at8 l i)):dec (bs l) i=(at8 l i,1):=dec_low l i (by unfold lttI restI at h; omega)
theorem dec_bad (l:Bs) (i:Nat) (h:¬ (lttI (at8 l i)∨restI (at8 l i))):badI (dec (bs l) i).1:=by
 by_cases q:at8 l i<128
 ·rw [dec_low l i q]
  rcases cls (at8 l i) with h1 | h1 | h1
  ·exact absurd (.inl h1) h
  ·exact absurd (.inr h1) h
  ·exact h1
 ·have:=dec_hi l i (by omega)
  unfold badI; omega

set_option maxRecDepth 100000 in
set_option maxHeartbeats 6400000 in
theorem isName_any (l:Bs) (w:World) (hl:l.length≤1100000):Calls Tryz.prog 125 #[.string (bs l)] w fun e w'=>e=.returned (.bool (nameB l))∧Kept w w':=by
 by_cases h60:l.length≤60
 ·go_enter Tryz.func125,Tryz.ntmps125
  go_wp2_with fail
  go_loopw [2] (fun r wr=>∃ pos:Nat,pos≤l.length∧r=.bool false∧wr.heap[w.heap.size]? = some (.stringIter (bs l) pos)∧Kept w wr∧Hid (NameSt l pos)) (fun _ wr=>l.length - wr.iterPos w.heap.size)
  case atStart=>exact ⟨0,Nat.zero_le _,rfl,by have:=World.iter_heap w (bs l) 0; simpa using this,kept_alloc _ _,NameSt.start l⟩
  case round =>
   obtain ⟨pos,hp,rfl,hit,hk,HA⟩:=hrel
   by_cases hlt:pos<l.length
   ·have nx:=fun ty=>run_next_k (P:=Tryz.prog) wr w.heap.size (bs l) pos ty hit hlt
    by_cases hc:lttI (at8 l pos)∨restI (at8 l pos)
    ·rw [dec_cls l pos hlt hc] at nx
     simp only [show ((1:Int).toNat)=1 from rfl] at nx
     obtain ⟨q1,q2,q3,q4⟩:=iter_next w wr w.heap.size l pos 1 hit hk (Nat.le_refl _)
     have HQ1:=Lib.hid q1
     have HQ2:=Lib.hid q2
     have HQ3:=Lib.hid q3
     have HQ4:=Lib.hid q4
     generalize wr.iterAt w.heap.size (bs l) (pos+1)=wq at *
     clear q1 q2 q3 q4 hit hk
     by_cases hcl:lttI (at8 l pos)
     ·have HN:=Lib.hid (HA.out.letter hlt hcl)
      generalize at8 l pos=c at *
      clear HA hc
      unfold lttI at hcl
      rcases hcl with ⟨g1,g2⟩ | ⟨g1,g2⟩
      all_goals
       go_wp2_with fail
       go_roundw
       case rel=>exact ⟨pos+1,by omega,rfl,HQ1.out,HQ2.out,HN.out⟩
       case measure=>rw [HQ3.out,HQ4.out]; omega
     ·have hcr:restI (at8 l pos):=by rcases hc with h | h; exact absurd h hcl; exact h
      by_cases hz:pos=0
      ·subst hz
       have HZ:=Lib.hid (NameSt.first hlt hcl)
       generalize at8 l 0=c at *
       clear HA hc hcl
       unfold restI at hcr
       rcases hcr with ⟨g1,g2⟩ | rfl | rfl | rfl | rfl
       all_goals
        go_wp2_with fail
        go_ret
        exact ⟨ret_bool HZ.out.symm,HQ2.out⟩
      ·have hz':((pos:Int) == 0)=false:=by rw [beq_eq_false_iff_ne]; omega
       have HN:=Lib.hid (HA.out.other hlt (by omega) hcr)
       generalize at8 l pos=c at *
       clear HA hc hcl
       unfold restI at hcr
       rcases hcr with ⟨g1,g2⟩ | rfl | rfl | rfl | rfl
       all_goals
        go_wp2_with fail
        go_roundw
        case rel=>exact ⟨pos+1,by omega,rfl,HQ1.out,HQ2.out,HN.out⟩
        case measure=>rw [HQ3.out,HQ4.out]; omega
    ·have HZ:=Lib.hid (NameSt.bad hlt hc)
     have hbad:=dec_bad l pos hc
     obtain ⟨q1,q2,q3,q4⟩:=iter_next w wr w.heap.size l pos (dec (bs l) pos).2.toNat hit hk (Nat.le_refl _)
     have HQ2:=Lib.hid q2
     generalize wr.iterAt w.heap.size (bs l) (pos+(dec (bs l) pos).2.toNat)=wq at *
     generalize (dec (bs l) pos).1=c at *
     clear hc HA q1 q2 q3 q4 hit hk
     unfold badI at hbad
     have hz:((pos:Int) == 0)=true∨((pos:Int) == 0)=false:=by cases ((pos:Int) == 0) <;> simp
     rcases hz with hz | hz <;> rcases hbad with g | rfl | ⟨g1,g2⟩ | ⟨g1,g2⟩ | rfl | g
     all_goals
      go_wp2_with fail
      go_ret
      exact ⟨ret_bool HZ.out.symm,HQ2.out⟩
   ·have nx:=fun ty=>run_next_k_end (P:=Tryz.prog) wr w.heap.size (bs l) pos ty hit (by simpa using hlt)
    obtain rfl:pos=l.length:=by omega
    have HZ:=Lib.hid (HA.out.done h60)
    have HR:=Lib.hid hk
    clear hk HA hit
    by_cases he:l=[]
    ·subst he
     go_wp2_with fail
     go_ret
     exact ⟨ret_bool (by rw [HZ.out]; rfl),HR.out⟩
    ·have hee:l.isEmpty=false:=by simpa using he
     go_wp2_with fail
     go_ret
     exact ⟨ret_bool (by rw [HZ.out,hee]; first | rfl | simp [hee]),HR.out⟩
 ·have HZ:Hid (nameB l=false):=by show _=_; unfold nameB; rw [decide_eq_false h60]; rfl
  go_enter Tryz.func125,Tryz.ntmps125
  go_wp2_with fail
  go_ret
  exact ⟨ret_bool HZ.out.symm,Kept.refl _⟩
end Go.Proofs.YtmcoomlkbgiboaaGreatDoor

/- Worlds that differ at some blocks alone; rows of persons and of pairs; bib.addPerson. Conditions: lengths. -/
set_option linter.all false
namespace Go.Proofs.YtmcoomlkbgiboaaGreatDoor
open Go.RowKit

def persC (ps:List P4):List Value:=ps.flatMap fun q=>[.string (bs q.1),.string (bs q.2.1),.string (bs q.2.2.1),.string (bs q.2.2.2)]
theorem persC_at (ps:List P4) (j:Nat) (q:P4) (h:ps[j]? = some q):(persC ps)[j * 4]? = some (.string (bs q.1))∧(persC ps)[j * 4+1]? = some (.string (bs q.2.1))∧(persC ps)[j * 4+2]? = some (.string (bs q.2.2.1))∧(persC ps)[j * 4+3]? = some (.string (bs q.2.2.2)):=by
 induction ps generalizing j with
 | nil=>cases h
 | cons p ps ih =>
  have e:persC (p :: ps)=[.string (bs p.1),.string (bs p.2.1),.string (bs p.2.2.1),.string (bs p.2.2.2)] ++ persC ps:=by simp [persC]
  rw [e]
  cases j with
  | zero=>cases h; exact ⟨rfl,rfl,rfl,rfl⟩
  | succ j =>
   have:=ih j (by simpa using h)
   rw [List.getElem?_append_right (by simp; omega),List.getElem?_append_right (by simp; omega),List.getElem?_append_right (by simp; omega),List.getElem?_append_right (by simp; omega)]
   simp only [List.length_cons,List.length_nil]
   rw [show (j+1) * 4 - (0+1+1+1+1)=j * 4 from by omega,show (j+1) * 4+1 - (0+1+1+1+1)=j * 4+1 from by omega,show (j+1) * 4+2 - (0+1+1+1+1)=j * 4+2 from by omega,show (j+1) * 4+3 - (0+1+1+1+1)=j * 4+3 from by omega]
   exact this
theorem Perss.own {w:World} {base:Nat} {e:TypeId} {v:Value} {ps:List P4} (h:w.ownsRow base e 4 v ps.length (persC ps)):Perss w v ps:=by
 obtain ⟨a,c,hv,hc,_,h3⟩:=own_cap h
 refine ⟨a,c,hv,hc,fun q=>?_⟩
 obtain ⟨g,ha,_,hg,hcell⟩:=h3 q
 refine ⟨g,0,ha,hg,fun j x hx=>?_⟩
 obtain ⟨c0,c1,c2,c3⟩:=persC_at ps j x hx
 simp only [Nat.zero_add]
 exact ⟨hcell _ _ c0,hcell _ _ c1,hcell _ _ c2,hcell _ _ c3⟩
theorem Tryz.infoPers:(Tryz.prog.info? 77).map (fun i=>(i.zero,i.size,i.bytes))=some (some (.agg #[.string ⟨#[]⟩,.string ⟨#[]⟩,.string ⟨#[]⟩,.string ⟨#[]⟩]),4,64):=by kernel_rfl
end Go.Proofs.YtmcoomlkbgiboaaGreatDoor

/- slices.Clone at lists of persons and of pairs. Conditions: lengths. -/
set_option linter.all false
namespace Go.Proofs.YtmcoomlkbgiboaaGreatDoor
open Go.RowKit

theorem persC_read (w:World) (g:Nat) (ps:List P4):∀ (o:Nat),(∀ j q,ps[j]? = some q→w.cell? ⟨g,o+j * 4,none⟩=some (.string (bs q.1))∧w.cell? ⟨g,o+j * 4+1,none⟩=some (.string (bs q.2.1))∧w.cell? ⟨g,o+j * 4+2,none⟩=some (.string (bs q.2.2.1))∧w.cell? ⟨g,o+j * 4+3,none⟩=some (.string (bs q.2.2.2))) →
  ∀ j u,(persC ps)[j]? = some u→w.cell? ⟨g,o+j,none⟩=some u:=by
 induction ps with
 | nil=>intro o _ j u h; cases h
 | cons p ps ih =>
  intro o hc j u h
  have e:persC (p :: ps)=.string (bs p.1) :: .string (bs p.2.1) :: .string (bs p.2.2.1) :: .string (bs p.2.2.2) :: persC ps:=by simp [persC]
  rw [e] at h
  obtain ⟨c0,c1,c2,c3⟩:=hc 0 p rfl
  simp only [Nat.zero_mul,Nat.add_zero] at c0 c1 c2 c3
  match j with
  | 0=>simp at h; subst h; exact c0
  | 1=>simp at h; subst h; exact c1
  | 2=>simp at h; subst h; exact c2
  | 3=>simp at h; subst h; exact c3
  | j+4 =>
   have:=ih (o+4) (fun i q hq=>by
    have h4:=hc (i+1) q (by simpa using hq)
    rw [show o+(i+1) * 4=o+4+i * 4 from by omega] at h4
    exact h4) j u (by simpa using h)
   rw [show o+(j+4)=o+4+j from by omega]; exact this
theorem persC_len (ps:List P4):(persC ps).length=ps.length * 4:=by
 induction ps with
 | nil=>rfl
 | cons p ps ih =>
    have e:persC (p :: ps)=.string (bs p.1) :: .string (bs p.2.1) :: .string (bs p.2.2.1) :: .string (bs p.2.2.2) :: persC ps:=by simp [persC]
    rw [e]; simp only [List.length_cons,ih]; omega
theorem persC_one (ps:List P4):∀ u∈persC ps,u.oneCell'=true:=by
 intro u hu
 unfold persC at hu
 rw [List.mem_flatMap] at hu
 obtain ⟨q,_,hq⟩:=hu
 simp at hq
 rcases hq with rfl | rfl | rfl | rfl <;> rfl
/-- The cells of a list of persons, by the address of the slice. -/
theorem Perss.news {w:World} {ad:Addr} {n c:Nat} {ps:List P4} (h:Perss w (.slice (some ad) n c) ps):∀ j u,(persC ps)[j]? = some u→w.cell? (ad.add j)=some u:=by
 intro j u hu
 obtain ⟨a,c',hv,_,h3⟩:=h
 obtain ⟨rfl,_,_⟩:=Value.slice.inj hv
 have hp:0<ps.length:=by
  cases ps with
  | nil=>cases hu
  | cons p ps=>simp
 obtain ⟨g,o,ha,_,hc⟩:=h3 hp
 cases ha
 rw [add_at]
 exact persC_read w g ps o hc j u hu
theorem Perss.nil_ {w:World} {n c:Nat} {ps:List P4} (h:Perss w (.slice none n c) ps):ps=[]:=by
 obtain ⟨a,c',hv,_,h3⟩:=h
 obtain ⟨rfl,_,_⟩:=Value.slice.inj hv
 cases ps with
 | nil=>rfl
 | cons p ps =>
  obtain ⟨g,o,ha,_⟩:=h3 (by simp)
  cases ha
theorem Prs.nil_ {w:World} {n c:Nat} {ps:List Pr} (h:Prs w (.slice none n c) ps):ps=[]:=by
 obtain ⟨a,c',hv,_,h3⟩:=h
 obtain ⟨rfl,_,_⟩:=Value.slice.inj hv
 cases ps with
 | nil=>rfl
 | cons p ps =>
  obtain ⟨g,o,ha,_⟩:=h3 (by simp)
  cases ha
theorem Perss.none_ (w:World):Perss w (.slice none 0 0) []:=⟨none,0,rfl,Nat.le_refl _,fun q=>absurd q (by simp)⟩
/-- A slice with cells lies in a block from B on. -/
def Fresh (B:Nat) (v:Value):Prop:=∀ g o n c,v=.slice (some ⟨g,o,none⟩) n c→0<n→B≤g
theorem Fresh.none_ (B:Nat) (n c:Nat):Fresh B (.slice none n c):=fun _ _ _ _ h=>by cases h
theorem Fresh.own {w:World} {base:Nat} {e:TypeId} {size:Nat} {v:Value} {n:Nat} {xs:List Value} (h:w.ownsRow base e size v n xs):Fresh base v:=by
 obtain ⟨a,c,rfl,_,_,h3⟩:=own_cap h
 intro g o n' c' he hn
 obtain ⟨rfl,rfl,rfl⟩:=Value.slice.inj he
 obtain ⟨g',e',hb,_⟩:=h3 hn
 cases e'; exact hb
theorem Perss.away {S:Nat→Prop} {w w':World} {B:Nat} {v:Value} {ps:List P4} (h:Perss w v ps) (hf:Fresh B v) (k:Only S w w') (hS:∀ i,S i→i<B):Perss w' v ps:=by
 obtain ⟨a,c,rfl,hc,h3⟩:=h
 refine ⟨a,c,rfl,hc,fun q=>?_⟩
 obtain ⟨g,o,rfl,hg,hcell⟩:=h3 q
 have hb:=hf g o _ _ rfl q
 have hn:¬ S g:=fun h=>by have:=hS g h; omega
 refine ⟨g,o,rfl,Nat.lt_of_lt_of_le hg k.size,fun j x hx=>?_⟩
 rw [k.cell g _ hg hn,k.cell g _ hg hn,k.cell g _ hg hn,k.cell g _ hg hn]
 exact hcell j x hx
theorem Prs.away {S:Nat→Prop} {w w':World} {B:Nat} {v:Value} {ps:List Pr} (h:Prs w v ps) (hf:Fresh B v) (k:Only S w w') (hS:∀ i,S i→i<B):Prs w' v ps:=by
 obtain ⟨a,c,rfl,hc,h3⟩:=h
 refine ⟨a,c,rfl,hc,fun q=>?_⟩
 obtain ⟨g,o,rfl,hg,hcell⟩:=h3 q
 have hb:=hf g o _ _ rfl q
 have hn:¬ S g:=fun h=>by have:=hS g h; omega
 refine ⟨g,o,rfl,Nat.lt_of_lt_of_le hg k.size,fun j x hx=>?_⟩
 rw [k.cell g _ hg hn,k.cell g _ hg hn]
 exact hcell j x hx
def CloneP (ps:List P4) (w:World) (e:Ending) (w':World):Prop:=∃ v',e=.returned v'∧Perss w' v' ps∧Fresh w.heap.size v'∧Kept w w'
def CloneF (ps:List Pr) (w:World) (e:Ending) (w':World):Prop:=∃ v',e=.returned v'∧Prs w' v' ps∧Fresh w.heap.size v'∧Kept w w'
set_option maxRecDepth 100000 in
set_option maxHeartbeats 1600000 in
theorem cloneP_any (v:Value) (ps:List P4) (w:World) (hv:Perss w v ps) (hN:ps.length≤1100000) :
  Calls Tryz.prog 98 #[v] w (CloneP ps w):=by
 obtain ⟨i0,hi,hz0,hz1,hz2⟩:=info_parts Tryz.infoPers
 have qT:∀ (w:World) (a:Option Addr) (n c n' c':Nat),(binOp .eql 48 (.slice a n c) (.slice none n' c')).run Tryz.prog w=.ok (.bool a.isNone) w:=fun w a n c n' c'=>Lib.run_eql_slice_nil w _ _ a n c n' c' Tryz.underlying48
 have HV:=Lib.hid hv
 obtain ⟨a,c,rfl,hc,h3⟩:=hv
 clear h3
 cases a with
 | none =>
  obtain rfl:ps=[]:=HV.out.nil_
  go_enter Tryz.func98,Tryz.ntmps98
  go_wp2_with fail
  go_ret
  exact ⟨_,rfl,Perss.none_ _,Fresh.none_ _ _ _,Kept.refl _⟩
 | some ad =>
  have HNEWS:=Lib.hid ((HV.out.kept (kept_alloc w (.cells #[] 77))).news)
  have hplen:=persC_len ps
  have HONE:=Lib.hid (persC_one ps)
  have HPO:Hid (∀ (w:World) (base:Nat) (e:TypeId) (v:Value) (n:Nat),n=ps.length→w.ownsRow base e 4 v n ([] ++ persC ps)→Perss w v ps):=by
   intro w base e v n hn h
   subst hn
   exact Perss.own (by simpa using h)
  go_enter Tryz.func98,Tryz.ntmps98
  go_wp2_with (at_builtin; refine wpList_append_own _ rfl _ _ 48 rfl w.heap.size 77 i0 _ 4 64 Tryz.underlying48 hi hz0 hz1 hz2 rfl (by decide) _ 0 [] rfl (World.ownsRow_made w #[] 0 (Nat.le_refl _) (by unfold maxLen; omega) (by simp)) ad ps.length c (persC ps) rfl hplen HNEWS.out HONE.out ?_ ?_ ?_ ?_)
  ·unfold maxLen; omega
  ·omega
  ·simp
  intro v' w2 hown2 hgrow _
  have HR:=Lib.hid (HPO.out _ _ _ _ _ (by omega) hown2)
  have HK:=Lib.hid ((kept_alloc w (.cells #[] 77)).trans' (grown_below (World.ownsRow_made (size:=4) w #[] 0 (Nat.le_refl _) (by unfold maxLen; omega) (by simp)) hgrow (by simp)))
  have HFR:=Lib.hid (Fresh.own hown2)
  clear hown2 hgrow
  go_wp2_with fail
  go_ret
  exact ⟨_,rfl,HR.out,HFR.out,HK.out⟩
set_option maxRecDepth 100000 in
set_option maxHeartbeats 1600000 in
theorem cloneF_any (v:Value) (ps:List Pr) (w:World) (hv:Prs w v ps) (hN:ps.length≤1100000) :
  Calls Tryz.prog 72 #[v] w (CloneF ps w):=by
 obtain ⟨i0,hi,hz0,hz1,hz2⟩:=info_parts Tryz.infoPair
 have qT:∀ (w:World) (a:Option Addr) (n c n' c':Nat),(binOp .eql 22 (.slice a n c) (.slice none n' c')).run Tryz.prog w=.ok (.bool a.isNone) w:=fun w a n c n' c'=>Lib.run_eql_slice_nil w _ _ a n c n' c' Tryz.underlying22
 have HV:=Lib.hid hv
 obtain ⟨a,c,rfl,hc,h3⟩:=hv
 clear h3
 cases a with
 | none =>
  obtain rfl:ps=[]:=HV.out.nil_
  go_enter Tryz.func72,Tryz.ntmps72
  go_wp2_with fail
  go_ret
  exact ⟨_,rfl,Prs.none_ _,Fresh.none_ _ _ _,Kept.refl _⟩
 | some ad =>
  have HNEWS:=Lib.hid ((HV.out.kept (kept_alloc w (.cells #[] 62))).news)
  have hplen:=pairC_len ps
  have HONE:=Lib.hid (pairC_one ps)
  have HPO:Hid (∀ (w:World) (base:Nat) (e:TypeId) (v:Value) (n:Nat),n=ps.length→w.ownsRow base e 2 v n ([] ++ pairC ps)→Prs w v ps):=by
   intro w base e v n hn h
   subst hn
   exact Prs.own (by simpa using h)
  go_enter Tryz.func72,Tryz.ntmps72
  go_wp2_with (at_builtin; refine wpList_append_own _ rfl _ _ 22 rfl w.heap.size 62 i0 _ 2 32 Tryz.underlying22 hi hz0 hz1 hz2 rfl (by decide) _ 0 [] rfl (World.ownsRow_made w #[] 0 (Nat.le_refl _) (by unfold maxLen; omega) (by simp)) ad ps.length c (pairC ps) rfl hplen HNEWS.out HONE.out ?_ ?_ ?_ ?_)
  ·unfold maxLen; omega
  ·omega
  ·simp
  intro v' w2 hown2 hgrow _
  have HR:=Lib.hid (HPO.out _ _ _ _ _ (by omega) hown2)
  have HK:=Lib.hid ((kept_alloc w (.cells #[] 62)).trans' (grown_below (World.ownsRow_made (size:=2) w #[] 0 (Nat.le_refl _) (by unfold maxLen; omega) (by simp)) hgrow (by simp)))
  have HFR:=Lib.hid (Fresh.own hown2)
  clear hown2 hgrow
  go_wp2_with fail
  go_ret
  exact ⟨_,rfl,HR.out,HFR.out,HK.out⟩
end Go.Proofs.YtmcoomlkbgiboaaGreatDoor

/- (*reader).add of package bib. Conditions: lengths. -/
set_option linter.all false
namespace Go.Proofs.YtmcoomlkbgiboaaGreatDoor
open Go.RowKit

/-- A source: key, type, authors, editors, fields. -/
structure SrcT where
 key:Bs
 type:Bs
 author:List P4
 editor:List P4
 fields:List Pr
end Go.Proofs.YtmcoomlkbgiboaaGreatDoor
