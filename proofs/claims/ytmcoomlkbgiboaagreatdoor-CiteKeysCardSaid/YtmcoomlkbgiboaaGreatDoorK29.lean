/- slices.Clone at lists of persons and of pairs. Conditions: lengths. -/
import Derived.Test.YtmcoomlkbgiboaaGreatDoorK18
import Derived.Test.YtmcoomlkbgiboaaGreatDoorK19
import Derived.Test.YtmcoomlkbgiboaaGreatDoorK08
import Derived.Test.YtmcoomlkbgiboaaGreatDoorK17
import Derived.Test.YtmcoomlkbgiboaaGreatDoorK10
import Derived.Test.YtmcoomlkbgiboaaGreatDoorK03
import Derived.Test.YtmcoomlkbgiboaaGreatDoorK07
import Derived.Test.YtmcoomlkbgiboaaGreatDoorK27
import Derived.Test.YtmcoomlkbgiboaaGreatDoorK11
import Derived.Test.YtmcoomlkbgiboaaGreatDoorK09
import Derived.Lib.SliceRun
import Derived.Deep.RegionLaw
import Derived.Deep.RegionHeld3
import Derived.Lib.Atoi

set_option linter.all false
namespace Go.Proofs.YtmcoomlkbgiboaaGreatDoor
open Go.RowKit

theorem persC_read (w:World) (g:Nat) (ps:List P4):∀ (o:Nat),(∀ j q,ps[j]? = some q→w.cell? ⟨g,o+j * 4,none⟩=some (.string (bs q.1))∧w.cell? ⟨g,o+j * 4+1,none⟩=some (.string (bs q.2.1))∧w.cell? ⟨g,o+j * 4+2,none⟩=some (.string (bs q.2.2.1))∧w.cell? ⟨g,o+j * 4+3,none⟩=some (.string (bs q.2.2.2))) →
  ∀ j u,(persC ps)[j]? = some u→w.cell? ⟨g,o+j,none⟩=some u:=by
 induction ps with
 | nil=>intro o _ j u h; cases h
 | cons p ps ih =>
  intro o hc j u h
  have e:persC (p :: ps)=.string (bs p.1) :: .string (bs p.2.1) :: .string (bs p.2.2.1) :: .string (bs p.2.2.2) :: persC ps:=by simp [persC]
  rw [e] at h
  obtain ⟨c0,c1,c2,c3⟩:=hc 0 p rfl
  simp only [Nat.zero_mul,Nat.add_zero] at c0 c1 c2 c3
  match j with
  | 0=>simp at h; subst h; exact c0
  | 1=>simp at h; subst h; exact c1
  | 2=>simp at h; subst h; exact c2
  | 3=>simp at h; subst h; exact c3
  | j+4 =>
   have:=ih (o+4) (fun i q hq=>by
    have h4:=hc (i+1) q (by simpa using hq)
    rw [show o+(i+1) * 4=o+4+i * 4 from by omega] at h4
    exact h4) j u (by simpa using h)
   rw [show o+(j+4)=o+4+j from by omega]; exact this
theorem persC_len (ps:List P4):(persC ps).length=ps.length * 4:=by
 induction ps with
 | nil=>rfl
 | cons p ps ih =>
    have e:persC (p :: ps)=.string (bs p.1) :: .string (bs p.2.1) :: .string (bs p.2.2.1) :: .string (bs p.2.2.2) :: persC ps:=by simp [persC]
    rw [e]; simp only [List.length_cons,ih]; omega
theorem persC_one (ps:List P4):∀ u∈persC ps,u.oneCell'=true:=by
 intro u hu
 unfold persC at hu
 rw [List.mem_flatMap] at hu
 obtain ⟨q,_,hq⟩:=hu
 simp at hq
 rcases hq with rfl | rfl | rfl | rfl <;> rfl
/-- The cells of a list of persons, by the address of the slice. -/
theorem Perss.news {w:World} {ad:Addr} {n c:Nat} {ps:List P4} (h:Perss w (.slice (some ad) n c) ps):∀ j u,(persC ps)[j]? = some u→w.cell? (ad.add j)=some u:=by
 intro j u hu
 obtain ⟨a,c',hv,_,h3⟩:=h
 obtain ⟨rfl,_,_⟩:=Value.slice.inj hv
 have hp:0<ps.length:=by
  cases ps with
  | nil=>cases hu
  | cons p ps=>simp
 obtain ⟨g,o,ha,_,hc⟩:=h3 hp
 cases ha
 rw [add_at]
 exact persC_read w g ps o hc j u hu
theorem Perss.nil_ {w:World} {n c:Nat} {ps:List P4} (h:Perss w (.slice none n c) ps):ps=[]:=by
 obtain ⟨a,c',hv,_,h3⟩:=h
 obtain ⟨rfl,_,_⟩:=Value.slice.inj hv
 cases ps with
 | nil=>rfl
 | cons p ps =>
  obtain ⟨g,o,ha,_⟩:=h3 (by simp)
  cases ha
theorem Prs.nil_ {w:World} {n c:Nat} {ps:List Pr} (h:Prs w (.slice none n c) ps):ps=[]:=by
 obtain ⟨a,c',hv,_,h3⟩:=h
 obtain ⟨rfl,_,_⟩:=Value.slice.inj hv
 cases ps with
 | nil=>rfl
 | cons p ps =>
  obtain ⟨g,o,ha,_⟩:=h3 (by simp)
  cases ha
theorem Perss.none_ (w:World):Perss w (.slice none 0 0) []:=⟨none,0,rfl,Nat.le_refl _,fun q=>absurd q (by simp)⟩
/-- A slice with cells lies in a block from B on. -/
def Fresh (B:Nat) (v:Value):Prop:=∀ g o n c,v=.slice (some ⟨g,o,none⟩) n c→0<n→B≤g
theorem Fresh.none_ (B:Nat) (n c:Nat):Fresh B (.slice none n c):=fun _ _ _ _ h=>by cases h
theorem Fresh.own {w:World} {base:Nat} {e:TypeId} {size:Nat} {v:Value} {n:Nat} {xs:List Value} (h:w.ownsRow base e size v n xs):Fresh base v:=by
 obtain ⟨a,c,rfl,_,_,h3⟩:=own_cap h
 intro g o n' c' he hn
 obtain ⟨rfl,rfl,rfl⟩:=Value.slice.inj he
 obtain ⟨g',e',hb,_⟩:=h3 hn
 cases e'; exact hb
theorem Perss.away {S:Nat→Prop} {w w':World} {B:Nat} {v:Value} {ps:List P4} (h:Perss w v ps) (hf:Fresh B v) (k:Only S w w') (hS:∀ i,S i→i<B):Perss w' v ps:=by
 obtain ⟨a,c,rfl,hc,h3⟩:=h
 refine ⟨a,c,rfl,hc,fun q=>?_⟩
 obtain ⟨g,o,rfl,hg,hcell⟩:=h3 q
 have hb:=hf g o _ _ rfl q
 have hn:¬ S g:=fun h=>by have:=hS g h; omega
 refine ⟨g,o,rfl,Nat.lt_of_lt_of_le hg k.size,fun j x hx=>?_⟩
 rw [k.cell g _ hg hn,k.cell g _ hg hn,k.cell g _ hg hn,k.cell g _ hg hn]
 exact hcell j x hx
theorem Prs.away {S:Nat→Prop} {w w':World} {B:Nat} {v:Value} {ps:List Pr} (h:Prs w v ps) (hf:Fresh B v) (k:Only S w w') (hS:∀ i,S i→i<B):Prs w' v ps:=by
 obtain ⟨a,c,rfl,hc,h3⟩:=h
 refine ⟨a,c,rfl,hc,fun q=>?_⟩
 obtain ⟨g,o,rfl,hg,hcell⟩:=h3 q
 have hb:=hf g o _ _ rfl q
 have hn:¬ S g:=fun h=>by have:=hS g h; omega
 refine ⟨g,o,rfl,Nat.lt_of_lt_of_le hg k.size,fun j x hx=>?_⟩
 rw [k.cell g _ hg hn,k.cell g _ hg hn]
 exact hcell j x hx
def CloneP (ps:List P4) (w:World) (e:Ending) (w':World):Prop:=∃ v',e=.returned v'∧Perss w' v' ps∧Fresh w.heap.size v'∧Kept w w'
def CloneF (ps:List Pr) (w:World) (e:Ending) (w':World):Prop:=∃ v',e=.returned v'∧Prs w' v' ps∧Fresh w.heap.size v'∧Kept w w'
set_option maxRecDepth 100000 in
set_option maxHeartbeats 1600000 in
theorem cloneP_any (v:Value) (ps:List P4) (w:World) (hv:Perss w v ps) (hN:ps.length≤1100000) :
  Calls Tryz.prog 98 #[v] w (CloneP ps w):=by
 obtain ⟨i0,hi,hz0,hz1,hz2⟩:=info_parts Tryz.infoPers
 have qT:∀ (w:World) (a:Option Addr) (n c n' c':Nat),(binOp .eql 48 (.slice a n c) (.slice none n' c')).run Tryz.prog w=.ok (.bool a.isNone) w:=fun w a n c n' c'=>Lib.run_eql_slice_nil w _ _ a n c n' c' Tryz.underlying48
 have HV:=Lib.hid hv
 obtain ⟨a,c,rfl,hc,h3⟩:=hv
 clear h3
 cases a with
 | none =>
  obtain rfl:ps=[]:=HV.out.nil_
  go_enter Tryz.func98,Tryz.ntmps98
  go_wp2_with fail
  go_ret
  exact ⟨_,rfl,Perss.none_ _,Fresh.none_ _ _ _,Kept.refl _⟩
 | some ad =>
  have HNEWS:=Lib.hid ((HV.out.kept (kept_alloc w (.cells #[] 77))).news)
  have hplen:=persC_len ps
  have HONE:=Lib.hid (persC_one ps)
  have HPO:Hid (∀ (w:World) (base:Nat) (e:TypeId) (v:Value) (n:Nat),n=ps.length→w.ownsRow base e 4 v n ([] ++ persC ps)→Perss w v ps):=by
   intro w base e v n hn h
   subst hn
   exact Perss.own (by simpa using h)
  go_enter Tryz.func98,Tryz.ntmps98
  go_wp2_with (at_builtin; refine wpList_append_own _ rfl _ _ 48 rfl w.heap.size 77 i0 _ 4 64 Tryz.underlying48 hi hz0 hz1 hz2 rfl (by decide) _ 0 [] rfl (World.ownsRow_made w #[] 0 (Nat.le_refl _) (by unfold maxLen; omega) (by simp)) ad ps.length c (persC ps) rfl hplen HNEWS.out HONE.out ?_ ?_ ?_ ?_)
  ·unfold maxLen; omega
  ·omega
  ·simp
  intro v' w2 hown2 hgrow _
  have HR:=Lib.hid (HPO.out _ _ _ _ _ (by omega) hown2)
  have HK:=Lib.hid ((kept_alloc w (.cells #[] 77)).trans' (grown_below (World.ownsRow_made (size:=4) w #[] 0 (Nat.le_refl _) (by unfold maxLen; omega) (by simp)) hgrow (by simp)))
  have HFR:=Lib.hid (Fresh.own hown2)
  clear hown2 hgrow
  go_wp2_with fail
  go_ret
  exact ⟨_,rfl,HR.out,HFR.out,HK.out⟩
set_option maxRecDepth 100000 in
set_option maxHeartbeats 1600000 in
theorem cloneF_any (v:Value) (ps:List Pr) (w:World) (hv:Prs w v ps) (hN:ps.length≤1100000) :
  Calls Tryz.prog 72 #[v] w (CloneF ps w):=by
 obtain ⟨i0,hi,hz0,hz1,hz2⟩:=info_parts Tryz.infoPair
 have qT:∀ (w:World) (a:Option Addr) (n c n' c':Nat),(binOp .eql 22 (.slice a n c) (.slice none n' c')).run Tryz.prog w=.ok (.bool a.isNone) w:=fun w a n c n' c'=>Lib.run_eql_slice_nil w _ _ a n c n' c' Tryz.underlying22
 have HV:=Lib.hid hv
 obtain ⟨a,c,rfl,hc,h3⟩:=hv
 clear h3
 cases a with
 | none =>
  obtain rfl:ps=[]:=HV.out.nil_
  go_enter Tryz.func72,Tryz.ntmps72
  go_wp2_with fail
  go_ret
  exact ⟨_,rfl,Prs.none_ _,Fresh.none_ _ _ _,Kept.refl _⟩
 | some ad =>
  have HNEWS:=Lib.hid ((HV.out.kept (kept_alloc w (.cells #[] 62))).news)
  have hplen:=pairC_len ps
  have HONE:=Lib.hid (pairC_one ps)
  have HPO:Hid (∀ (w:World) (base:Nat) (e:TypeId) (v:Value) (n:Nat),n=ps.length→w.ownsRow base e 2 v n ([] ++ pairC ps)→Prs w v ps):=by
   intro w base e v n hn h
   subst hn
   exact Prs.own (by simpa using h)
  go_enter Tryz.func72,Tryz.ntmps72
  go_wp2_with (at_builtin; refine wpList_append_own _ rfl _ _ 22 rfl w.heap.size 62 i0 _ 2 32 Tryz.underlying22 hi hz0 hz1 hz2 rfl (by decide) _ 0 [] rfl (World.ownsRow_made w #[] 0 (Nat.le_refl _) (by unfold maxLen; omega) (by simp)) ad ps.length c (pairC ps) rfl hplen HNEWS.out HONE.out ?_ ?_ ?_ ?_)
  ·unfold maxLen; omega
  ·omega
  ·simp
  intro v' w2 hown2 hgrow _
  have HR:=Lib.hid (HPO.out _ _ _ _ _ (by omega) hown2)
  have HK:=Lib.hid ((kept_alloc w (.cells #[] 62)).trans' (grown_below (World.ownsRow_made (size:=2) w #[] 0 (Nat.le_refl _) (by unfold maxLen; omega) (by simp)) hgrow (by simp)))
  have HFR:=Lib.hid (Fresh.own hown2)
  clear hown2 hgrow
  go_wp2_with fail
  go_ret
  exact ⟨_,rfl,HR.out,HFR.out,HK.out⟩
end Go.Proofs.YtmcoomlkbgiboaaGreatDoor

/- cite.copySource: a copy of a source. Conditions: lengths. -/
set_option linter.all false
namespace Go.Proofs.YtmcoomlkbgiboaaGreatDoor
open Go.RowKit

theorem Perss.freshB {w:World} {v:Value} {ps:List P4} {B:Nat} (h:Perss w v ps) (hf:Fresh B v):InB (fun g=>B≤g) v ps.length:=fun q g hg=>by
 obtain ⟨a,c,rfl,hc,h3⟩:=h
 obtain ⟨g',o,rfl,_⟩:=h3 q
 have:g'=g:=by simpa [Value.ownBlock] using hg
 subst this
 exact hf g' o _ _ rfl q
theorem Prs.freshB {w:World} {v:Value} {ps:List Pr} {B:Nat} (h:Prs w v ps) (hf:Fresh B v):InB (fun g=>B≤g) v ps.length:=fun q g hg=>by
 obtain ⟨a,c,rfl,hc,h3⟩:=h
 obtain ⟨g',o,rfl,_⟩:=h3 q
 have:g'=g:=by simpa [Value.ownBlock] using hg
 subst this
 exact hf g' o _ _ rfl q
theorem Tryz.sizeSo:(Tryz.prog.info? 50).map (fun x=>x.size)=some 5:=by kernel_rfl
def CpyS (s:SrcT) (w:World) (e:Ending) (w':World):Prop:=∃ vA vE vF,e=.returned (srcV s.key s.type vA vE vF)∧SrcL (fun g=>w.heap.size≤g) w' vA vE vF s∧Kept w w'
set_option maxRecDepth 100000 in
set_option maxHeartbeats 6400000 in
theorem cicopy_any (vA vE vF:Value) (s:SrcT) (w:World) (hA:Perss w vA s.author) (hE:Perss w vE s.editor) (hF:Prs w vF s.fields) (lA:s.author.length≤1000) (lE:s.editor.length≤1000) (lF:s.fields.length≤1000) :
  Calls Tryz.prog 43 #[srcV s.key s.type vA vE vF] w (CpyS s w):=by
 have HCA:=Lib.hid (fun w' (k:Kept w w')=>cloneP_any vA s.author w' (hA.kept k) (by omega))
 have HCE:=Lib.hid (fun w' (k:Kept w w')=>cloneP_any vE s.editor w' (hE.kept k) (by omega))
 have HCF:=Lib.hid (fun w' (k:Kept w w')=>cloneF_any vF s.fields w' (hF.kept k) (by omega))
 unfold CloneP at HCA HCE
 unfold CloneF at HCF
 obtain ⟨aA,cA,rfl,_⟩:=hA.shape
 obtain ⟨aE,cE,rfl,_⟩:=hE.shape
 obtain ⟨aF,cF,rfl,_⟩:=(show ∃ a c,vF=.slice a s.fields.length c∧s.fields.length≤c by obtain ⟨a,c,e,l,_⟩:=hF; exact ⟨a,c,e,l⟩)
 have HFIN:Hid (∀ vA vE vF w',SrcL (fun g=>w.heap.size≤g) w' vA vE vF s→Kept w w'→CpyS s w (.returned (srcV s.key s.type vA vE vF)) w'):=fun vA vE vF w' h1 h2=>⟨vA,vE,vF,rfl,h1,h2⟩
 clear hA hE hF
 obtain ⟨skey,styp,au,ed,fs⟩:=s
 simp only at HCA HCE HCF lA lE lF
 have hb1:=(Blk.new w 50 #[.string (bs skey),.string (bs styp),.slice aA au.length cA,.slice aE ed.length cE,.slice aF fs.length cF]).alloc (.cells #[.string (bs []),.string (bs []),.slice none 0 0,.slice none 0 0,.slice none 0 0] 50)
 have hr1:=Blk.new (w.alloc (.cells #[.string (bs skey),.string (bs styp),.slice aA au.length cA,.slice aE ed.length cE,.slice aF fs.length cF] 50)) 50 #[.string (bs []),.string (bs []),.slice none 0 0,.slice none 0 0,.slice none 0 0]
 have HK0:=Lib.hid ((kept_alloc w (.cells #[.string (bs skey),.string (bs styp),.slice aA au.length cA,.slice aE ed.length cE,.slice aF fs.length cF] 50)).trans (kept_alloc _ (.cells #[.string (bs []),.string (bs []),.slice none 0 0,.slice none 0 0,.slice none 0 0] 50)))
 obtain ⟨B,HBB⟩:∃ B,Hid (w.heap.size=B):=⟨_,rfl⟩
 simp only [World.size_alloc,HBB.out] at hb1 hr1
 have HB1:=Lib.hid hb1
 have HR1:=Lib.hid hr1
 have hwB:w.heap.size≤B:=by rw [HBB.out]; exact Nat.le_refl _
 clear hb1 hr1
 generalize CpyS ⟨skey,styp,au,ed,fs⟩ w=P at *
 go_enter Tryz.func43,Tryz.ntmps43
 go_upto_region 1 with fail
 rw [HBB.out]
 generalize World.alloc (World.alloc w _) _=w0 at *
 have hB0:B+1<w0.heap.size:=HR1.out.lt
 have c2:=HB1.out.cell 2 _ rfl
 have cz:=HB1.out.lt
 go_wp2_with fail
 refine (HCA.out w0 HK0.out).mono ?_
 rintro e w1 ⟨vA1,rfl,p1,f1,k1⟩
 have HPA:=Lib.hid (p1.sam (S:=fun g=>w0.heap.size≤g) (p1.freshB f1) (fun _ _ _=>rfl))
 have HIA:Hid (InB (fun g=>w0.heap.size≤g) vA1 au.length):=p1.freshB f1
 obtain ⟨aA1,cA1,rfl,_⟩:=p1.shape
 have hb:=HB1.out.kept k1
 have c2':=hb.cell 2 _ rfl
 have fr2:=hb.free 2
 have cz':=hb.lt
 have HB2:Hid (Blk (w1.setCell ⟨B,2,none⟩ (.slice aA1 au.length cA1)) B 50 #[.string (bs skey),.string (bs styp),.slice aA1 au.length cA1,.slice aE ed.length cE,.slice aF fs.length cF]):=hb.set 2 _
 have ho2:=Only.setCell (w:=w1) B 2 (.slice aA1 au.length cA1)
 have HR2:=Lib.hid ((HR1.out.kept k1).onl ho2 (by omega))
 have HK2:=Lib.hid ((HK0.out.trans k1).trans' (ho2.below (HK0.out.trans k1).size (fun i e=>by rw [e]; exact hwB)))
 have HPA2:=Lib.hid (HPA.out.sam HIA.out (Sam.only ho2 (fun g _ hs q=>by omega)))
 have hz2:w0.heap.size≤(w1.setCell ⟨B,2,none⟩ (.slice aA1 au.length cA1)).heap.size:=Nat.le_trans k1.size ho2.size
 clear p1 f1 k1 hb ho2 HPA HCA HB1 HR1 c2
 go_upto_region 2 with fail
 generalize w1.setCell ⟨B,2,none⟩ (.slice aA1 au.length cA1)=w2 at *
 clear c2' fr2 cz' cz
 have c3:=HB2.out.cell 3 _ rfl
 have cz:=HB2.out.lt
 go_wp2_with fail
 refine (HCE.out w2 HK2.out).mono ?_
 rintro e w3 ⟨vE1,rfl,p1,f1,k1⟩
 have HPB:=Lib.hid (p1.sam (S:=fun g=>w2.heap.size≤g) (p1.freshB f1) (fun _ _ _=>rfl))
 have HIB:Hid (InB (fun g=>w2.heap.size≤g) vE1 ed.length):=p1.freshB f1
 obtain ⟨aE1,cE1,rfl,_⟩:=p1.shape
 have hb:=HB2.out.kept k1
 have c3':=hb.cell 3 _ rfl
 have fr3:=hb.free 3
 have cz':=hb.lt
 have HB4:Hid (Blk (w3.setCell ⟨B,3,none⟩ (.slice aE1 ed.length cE1)) B 50 #[.string (bs skey),.string (bs styp),.slice aA1 au.length cA1,.slice aE1 ed.length cE1,.slice aF fs.length cF]):=hb.set 3 _
 have ho2:=Only.setCell (w:=w3) B 3 (.slice aE1 ed.length cE1)
 have HR4:=Lib.hid ((HR2.out.kept k1).onl ho2 (by omega))
 have HK4:=Lib.hid ((HK2.out.trans k1).trans' (ho2.below (HK2.out.trans k1).size (fun i e=>by rw [e]; exact hwB)))
 have HPA4:=Lib.hid (((HPA2.out.kept k1).sam HIA.out (Sam.only ho2 (fun g _ hs q=>by omega))))
 have HPB4:=Lib.hid (HPB.out.sam HIB.out (Sam.only ho2 (fun g _ hs q=>by omega)))
 have hz4:w2.heap.size≤(w3.setCell ⟨B,3,none⟩ (.slice aE1 ed.length cE1)).heap.size:=Nat.le_trans k1.size ho2.size
 clear p1 f1 k1 hb ho2 HPB HPA2 HCE HB2 HR2 c3
 go_upto_region 3 with fail
 generalize w3.setCell ⟨B,3,none⟩ (.slice aE1 ed.length cE1)=w4 at *
 clear c3' fr3 cz' cz
 have c4:=HB4.out.cell 4 _ rfl
 have cz:=HB4.out.lt
 go_wp2_with fail
 refine (HCF.out w4 HK4.out).mono ?_
 rintro e w5 ⟨vF1,rfl,p1,f1,k1⟩
 have HPC:=Lib.hid (p1.sam (S:=fun g=>w4.heap.size≤g) (p1.freshB f1) (fun _ _ _=>rfl))
 have HIC:Hid (InB (fun g=>w4.heap.size≤g) vF1 fs.length):=p1.freshB f1
 obtain ⟨aF1,cF1,rfl,_⟩:=(show ∃ a c,vF1=.slice a fs.length c∧fs.length≤c by obtain ⟨a,c,e,l,_⟩:=p1; exact ⟨a,c,e,l⟩)
 have hb:=HB4.out.kept k1
 have c4':=hb.cell 4 _ rfl
 have fr4:=hb.free 4
 have cz':=hb.lt
 have HB6:Hid (Blk (w5.setCell ⟨B,4,none⟩ (.slice aF1 fs.length cF1)) B 50 #[.string (bs skey),.string (bs styp),.slice aA1 au.length cA1,.slice aE1 ed.length cE1,.slice aF1 fs.length cF1]):=hb.set 4 _
 have ho2:=Only.setCell (w:=w5) B 4 (.slice aF1 fs.length cF1)
 have HR6:=Lib.hid ((HR4.out.kept k1).onl ho2 (by omega))
 have HK6:=Lib.hid ((HK4.out.trans k1).trans' (ho2.below (HK4.out.trans k1).size (fun i e=>by rw [e]; exact hwB)))
 have HPA6:=Lib.hid (((HPA4.out.kept k1).sam HIA.out (Sam.only ho2 (fun g _ hs q=>by omega))))
 have HPB6:=Lib.hid (((HPB4.out.kept k1).sam HIB.out (Sam.only ho2 (fun g _ hs q=>by omega))))
 have HPC6:=Lib.hid (HPC.out.sam HIC.out (Sam.only ho2 (fun g _ hs q=>by omega)))
 clear p1 f1 k1 hb ho2 HPC HPA4 HPB4 HCF HB4 HR4 c4
 go_upto_region 4 with fail
 generalize w5.setCell ⟨B,4,none⟩ (.slice aF1 fs.length cF1)=w6 at *
 clear c4' fr4 cz' cz
 have cz:=HB6.out.lt
 go_wp2_with (first
  | (refine wpList_load_blk (by rfl) 50 (.tmp 1) (by rfl) B _ (by rfl) HB6.out _ Tryz.underlying50 rfl Tryz.sizeSo ?_)
  | (refine wpList_store_blk rfl 50 (.tmp 2) (.tmp 15) (by rfl) (B+1) _ #[.string (bs skey),.string (bs styp),.slice aA1 au.length cA1,.slice aE1 ed.length cE1,.slice aF1 fs.length cF1] (by rfl) (by rfl) HR6.out rfl Tryz.sizeSo (by simp only [List.all_toArray,List.all_cons,List.all_nil]; rfl) ?_; intro w9 hb9 ho9; have r0:w9.cell? ⟨B+1,0,none⟩=some (.string (bs skey)):=hb9.cell 0 _ rfl; have r1:w9.cell? ⟨B+1,1,none⟩=some (.string (bs styp)):=hb9.cell 1 _ rfl; have r2:w9.cell? ⟨B+1,2,none⟩=some (.slice aA1 au.length cA1):=hb9.cell 2 _ rfl; have r3:w9.cell? ⟨B+1,3,none⟩=some (.slice aE1 ed.length cE1):=hb9.cell 3 _ rfl; have r4:w9.cell? ⟨B+1,4,none⟩=some (.slice aF1 fs.length cF1):=hb9.cell 4 _ rfl; have rz:=hb9.lt; have HK9:=Lib.hid (HK6.out.trans' (ho9.below HK6.out.size (fun i e=>by rw [e]; omega))); have HPA9:=Lib.hid (HPA6.out.sam HIA.out (Sam.only ho9 (fun g _ hs q=>by omega))); have HPB9:=Lib.hid (HPB6.out.sam HIB.out (Sam.only ho9 (fun g _ hs q=>by omega))); have HPC9:=Lib.hid (HPC6.out.sam HIC.out (Sam.only ho9 (fun g _ hs q=>by omega))); clear hb9 ho9))
 have hw0:w.heap.size≤w0.heap.size:=HK0.out.size
 have h:=HFIN.out (.slice aA1 au.length cA1) (.slice aE1 ed.length cE1) (.slice aF1 fs.length cF1) w9 ⟨⟨HPA9.out,HIA.out.mono fun g _ _ q=>by omega⟩,⟨HPB9.out,HIB.out.mono fun g _ _ q=>by omega⟩,⟨HPC9.out,HIC.out.mono fun g _ _ q=>by omega⟩⟩ HK9.out
 refine bodyPost_ret (v:=srcV skey styp (.slice aA1 au.length cA1) (.slice aE1 ed.length cE1) (.slice aF1 fs.length cF1)) ?_ rfl h
 simp [results,Tryz.results43,go_sem,r0,r1,r2,r3,r4,rz,srcV]
end Go.Proofs.YtmcoomlkbgiboaaGreatDoor

/- A collation that a call builds in memory; what a store of a longer list does to it. No condition. -/
set_option linter.all false
namespace Go.Proofs.YtmcoomlkbgiboaaGreatDoor
open Go.RowKit

/-- Two rows that a call owns, of elements of other types, and a block of a third lie apart. -/
theorem own_no_blk {w:World} {base:Nat} {e:TypeId} {size:Nat} {v:Value} {n:Nat} {xs:List Value} {b:Nat} {t:TypeId} {cs:Array Value} (h:w.ownsRow base e size v n xs) (hb:Blk w b t cs) (hne:e≠t):some b≠v.ownBlock:=by
 rcases h.2 with ⟨rfl,_⟩ | ⟨g,cap,cur,rfl,_,hh,_⟩
 ·simp [Value.ownBlock]
 ·intro q
  have hg:b=g:=by simpa [Value.ownBlock] using q
  subst hg
  unfold Blk at hb
  rw [hb] at hh
  simp only [Option.some.injEq,Obj.cells.injEq] at hh
  exact hne hh.2.1.symm
theorem own_no_own {w:World} {base base':Nat} {e e':TypeId} {size size':Nat} {v v':Value} {n n':Nat} {xs xs':List Value} (h:w.ownsRow base e size v n xs) (h':w.ownsRow base' e' size' v' n' xs') (hne:e≠e'):∀ g,v.ownBlock=some g→some g≠v'.ownBlock:=by
 intro g hg
 rcases h.2 with ⟨rfl,_⟩ | ⟨g2,cap,cur,rfl,_,hh,_⟩
 ·simp [Value.ownBlock] at hg
 ·have hg2:g2=g:=by simpa [Value.ownBlock] using hg
  subst hg2
  exact own_no_blk h' (show Blk w g2 e cur from hh) (fun q=>hne q.symm)
/-- Block b is a collation whose lists the call owns. -/
def ColSt (w:World) (b base:Nat) (c:ColT):Prop:=∃ vR vO,Blk w b 88 #[vR,vO,.string (bs c.ignore)]∧w.ownsRow base 62 2 vR c.ranks.length (pairC c.ranks)∧w.ownsRow base 9 1 vO c.order.length (strCells c.order)
theorem ColSt.kept {w w':World} {b base:Nat} {c:ColT} (h:ColSt w b base c) (k:Kept w w'):ColSt w' b base c:=by
 obtain ⟨vR,vO,h1,h2,h3⟩:=h
 exact ⟨vR,vO,h1.kept k,own_kept h2 k,own_kept h3 k⟩
/-- A store into block b behind a push on a row. -/
theorem only_push {w w3:World} {base:Nat} {e:TypeId} {size:Nat} {v:Value} {n:Nat} {xs:List Value} {b o:Nat} {u:Value} (h:w.ownsRow base e size v n xs) (hg:w.grownBy w3 v.ownBlock):Only (fun i=>i=b∨base≤i) w (w3.setCell ⟨b,o,none⟩ u) :=
 ((Only.grown hg).mono (fun i _ q=>.inr (h.lt i q.symm).1)).trans ((Only.setCell b o u).mono (fun i _ q=>.inl q))
theorem st_order {w w3:World} {b base:Nat} {c:ColT} {ws:List Bs} {vR vO v':Value} (hb:Blk w b 88 #[vR,vO,.string (bs c.ignore)]) (hR:w.ownsRow base 62 2 vR c.ranks.length (pairC c.ranks)) (hO:w.ownsRow base 9 1 vO c.order.length (strCells c.order))
  (hown:w3.ownsRow base 9 1 v' (c.order ++ ws).length (strCells (c.order ++ ws))) (hg:w.grownBy w3 vO.ownBlock) :
  ColSt (w3.setCell ⟨b,1,none⟩ v') b base { c with order:=c.order ++ ws }∧Only (fun i=>i=b∨base≤i) w (w3.setCell ⟨b,1,none⟩ v'):=by
 have hne:=own_no_blk hO hb (by decide)
 have hb3:Blk w3 b 88 #[vR,vO,.string (bs c.ignore)]:=(hg.block b hb.lt hne).trans hb
 have hR3:w3.ownsRow base 62 2 vR c.ranks.length (pairC c.ranks):=(Only.grown hg).own hR (fun g hg'=>own_no_own hR hO (by decide) g hg')
 refine ⟨⟨vR,v',hb3.set 1 v',?_,?_⟩,only_push hO hg⟩
 ·exact (Only.setCell b 1 v').own hR3 (fun g hg' q=>own_no_blk hR3 hb3 (by decide) (by rw [hg',q]))
 ·exact (Only.setCell b 1 v').own hown (fun g hg' q=>own_no_blk hown hb3 (by decide) (by rw [hg',q]))
theorem st_ranks {w w3:World} {b base:Nat} {c:ColT} {ps:List Pr} {vR vO v':Value} (hb:Blk w b 88 #[vR,vO,.string (bs c.ignore)]) (hR:w.ownsRow base 62 2 vR c.ranks.length (pairC c.ranks)) (hO:w.ownsRow base 9 1 vO c.order.length (strCells c.order))
  (hown:w3.ownsRow base 62 2 v' (c.ranks ++ ps).length (pairC (c.ranks ++ ps))) (hg:w.grownBy w3 vR.ownBlock) :
  ColSt (w3.setCell ⟨b,0,none⟩ v') b base { c with ranks:=c.ranks ++ ps }∧Only (fun i=>i=b∨base≤i) w (w3.setCell ⟨b,0,none⟩ v'):=by
 have hne:=own_no_blk hR hb (by decide)
 have hb3:Blk w3 b 88 #[vR,vO,.string (bs c.ignore)]:=(hg.block b hb.lt hne).trans hb
 have hO3:w3.ownsRow base 9 1 vO c.order.length (strCells c.order):=(Only.grown hg).own hO (fun g hg'=>own_no_own hO hR (by decide) g hg')
 refine ⟨⟨v',vO,hb3.set 0 v',?_,?_⟩,only_push hR hg⟩
 ·exact (Only.setCell b 0 v').own hown (fun g hg' q=>own_no_blk hown hb3 (by decide) (by rw [hg',q]))
 ·exact (Only.setCell b 0 v').own hO3 (fun g hg' q=>own_no_blk hO3 hb3 (by decide) (by rw [hg',q]))
end Go.Proofs.YtmcoomlkbgiboaaGreatDoor

/- Helpers for Parse of style: whole structs into and out of blocks, Atoi, CutPrefix, the slice behind nine lines, a pair appended. Conditions: lengths. -/
set_option linter.all false
namespace Go.Proofs.YtmcoomlkbgiboaaGreatDoor
open Go.RowKit

theorem Tryz.sizeSty:(Tryz.prog.info? 33).map (fun x=>x.size)=some 10:=by kernel_rfl
theorem sty_cells {w:World} {R:Nat} {vE:Value} {y:StyT} (h:Blk w R 33 (styCells vE y)) :
  (w.cell? ⟨R,0,none⟩=some (.string (bs y.name))∧w.cell? ⟨R,1,none⟩=some (.bool y.numeric)∧w.cell? ⟨R,2,none⟩=some (.string (bs y.sort))∧w.cell? ⟨R,3,none⟩=some (.string (bs y.cite))∧w.cell? ⟨R,4,none⟩=some (.string (bs y.bare))∧w.cell? ⟨R,5,none⟩=some (.string (bs y.between))∧w.cell? ⟨R,6,none⟩=some (.string (bs y.begin_))∧w.cell? ⟨R,7,none⟩=some (.string (bs y.end_))∧w.cell? ⟨R,8,none⟩=some (.int .i64 y.most)∧w.cell? ⟨R,9,none⟩=some vE)∧R<w.heap.size :=
 ⟨⟨h.cell 0 _ rfl,h.cell 1 _ rfl,h.cell 2 _ rfl,h.cell 3 _ rfl,h.cell 4 _ rfl,h.cell 5 _ rfl,h.cell 6 _ rfl,h.cell 7 _ rfl,h.cell 8 _ rfl,h.cell 9 _ rfl⟩,h.lt⟩
set_option maxRecDepth 100000 in
/-- A pair that lies in a block of its own, appended in a plain region. -/
theorem wpList_append_pr (w:World) {ops:Array Oper} {rest:List Oper} {o:Oper} {a:Act} {Q:Exit→Act→World→Prop} (hgd:o.guard=none) (s x:Operand)
  (ho:o.op=.call { callee:=.builtin .append,args:=#[s,x],argTypes:=#[22,22] })
  (base:Nat) (v:Value) (ps:List Pr) (hs:a.eval s=v) (hown:w.ownsRow base 62 2 v ps.length (pairC ps)) (q:Pr) (g:Nat) (hx:a.eval x=.slice (some ⟨g,0,none⟩) 1 1)
  (hb:Blk w g 62 #[.string (bs q.1),.string (bs q.2)]) (hl:ps.length≤1000000) (hbase:base≤w.heap.size)
  (h:∀ v' w',w'.ownsRow base 62 2 v' (ps ++ [q]).length (pairC (ps ++ [q]))→w.grownBy w' v.ownBlock→wpList Tryz.prog ops Q rest (a.put o.dst v') w') :
  wpList Tryz.prog ops Q (o :: rest) a w:=by
 obtain ⟨i0,hi,hz0,hz1,hz2⟩:=info_parts Tryz.infoPair
 refine wpList_append_lies w hgd s x 22 ho base 62 i0 (.agg #[.string ⟨#[]⟩,.string ⟨#[]⟩]) 2 32 Tryz.underlying22 hi hz0 hz1 hz2 rfl (by decide) v ps.length (pairC ps) hs hown ⟨g,0,none⟩ 1 1 [.string (bs q.1),.string (bs q.2)] hx rfl (fun j u hu=>?_) (fun u hu=>?_) (by decide) (by unfold maxLen; omega) (by omega) hbase w.heap.size rfl (fun g' cap w' h1 h2 _ _=>h _ w' ?_ h2)
 ·rw [addr_at,Nat.zero_add]
  match j with
  | 0=>cases hu; exact hb.cell 0 _ rfl
  | 1=>cases hu; exact hb.cell 1 _ rfl
  | j+2=>simp at hu
 ·simp at hu
  rcases hu with rfl | rfl <;> rfl
 ·rw [pairC_snoc,List.length_append]; exact h1
end Go.Proofs.YtmcoomlkbgiboaaGreatDoor
