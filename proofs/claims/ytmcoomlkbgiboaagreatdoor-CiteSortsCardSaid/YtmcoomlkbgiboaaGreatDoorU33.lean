/- A citation as a text with holes for its suffix. Conditions: the style is valid. -/
import Derived.Test.YtmcoomlkbgiboaaGreatDoorU22
import Derived.Test.YtmcoomlkbgiboaaGreatDoorU17
import Derived.Test.YtmcoomlkbgiboaaGreatDoorU19
import Derived.Test.YtmcoomlkbgiboaaGreatDoorU18
import Derived.Test.YtmcoomlkbgiboaaGreatDoorU14
import Derived.Test.YtmcoomlkbgiboaaGreatDoorU05
import Derived.Test.YtmcoomlkbgiboaaGreatDoorU15
import Derived.Test.YtmcoomlkbgiboaaGreatDoorU03
import Derived.Test.YtmcoomlkbgiboaaGreatDoorU25
import Derived.Test.YtmcoomlkbgiboaaGreatDoorU04
import Derived.Test.YtmcoomlkbgiboaaGreatDoorU07
import Derived.Test.YtmcoomlkbgiboaaGreatDoorU21
import Derived.Test.YtmcoomlkbgiboaaGreatDoorU08
import Derived.Test.YtmcoomlkbgiboaaGreatDoorU32
import Derived.Test.YtmcoomlkbgiboaaGreatDoorU29
import Derived.Test.YtmcoomlkbgiboaaGreatDoorU26
import Derived.Deep.RegionHeld3
import Derived.BigQuiet

set_option linter.all false
namespace Go.Proofs.YtmcoomlkbgiboaaGreatDoor
open Go.RowKit

theorem sty_freeC {y:StyT} (h:styE y=0):splE y.cite=0∧freeB (splL y.cite) (if y.numeric=true then kNumber else kSuffix)=true:=by
 have hc:citE y=0:=by
  unfold styE at h
  split at h
  ·cases h
  ·split at h
   ·cases h
   ·split at h
    ·rename_i q; exact absurd h q
    ·split at h
     ·rename_i q; exact absurd h q
     ·rename_i q; exact Decidable.not_not.1 q
 unfold citE at hc
 split at hc
 ·rename_i q; exact absurd hc q
 ·rename_i q
  refine ⟨Decidable.not_not.1 q,?_⟩
  cases hfb:freeB (splL y.cite) (if y.numeric=true then kNumber else kSuffix) with
  | true=>rfl
  | false=>rw [hfb,if_pos rfl] at hc; cases hc
/-- A piece of a template with holes for the values of key. -/
def tokP (val:Bs→Bs) (key:Bs) (ds:List Int) (p:Pc):Tok:=if ds.contains (p.grp:Int)=true then [] else if p.fld=true then (if p.txt=key then [none] else (val p.txt).map some) else p.txt.map some
theorem tokP_fill (val val0:Bs→Bs) (key s:Bs) (ds:List Int) (h1:val key=s) (h2:∀ k,k≠key→val k=val0 k) (p:Pc):tokS s (tokP val0 key ds p)=fillP val ds p:=by
 unfold tokP fillP
 split
 ·rfl
 ·split
  ·split
   ·rename_i q; rw [tokS_hole,q,h1]
   ·rename_i q; rw [tokS_some,h2 _ q]
  ·rw [tokS_some]
theorem dropG_same (ps:List Pc) (v1 v2:Bs→Bs) (h:∀ k,(v1 k == [])=(v2 k == [])):dropG ps v1=dropG ps v2:=by
 unfold dropG
 congr 1
 refine List.filter_congr fun p _=>?_
 rw [h]
/-- The template with holes. -/
def tokF (ps:List Pc) (val:Bs→Bs) (key:Bs):Tok:=ps.flatMap (tokP val key (dropG ps val))
theorem tokF_fill (ps:List Pc) (val val0:Bs→Bs) (key s:Bs) (hs:s≠[]) (h0:val0 key≠[]) (h1:val key=s) (h2:∀ k,k≠key→val k=val0 k):fillB ps val=tokS s (tokF ps val0 key):=by
 have hd:dropG ps val=dropG ps val0:=dropG_same ps val val0 (fun k=>by
  by_cases q:k=key
  ·subst q
   have a:(val k == [])=false:=by rw [h1]; simpa using hs
   have b:(val0 k == [])=false:=by simpa using h0
   rw [a,b]
  ·rw [h2 k q])
 unfold fillB tokF
 rw [tokS_flat,hd]
 congr 1
 funext p
 exact (tokP_fill val val0 key s _ h1 h2 p).symm
theorem tokF_hole (ps:List Pc) (val:Bs→Bs) (key:Bs) (h0:val key≠[]) (h:freeB ps key=true):none∈tokF ps val key:=by
 unfold freeB at h
 rw [List.any_eq_true] at h
 obtain ⟨p,hp,h1⟩:=h
 rw [Bool.and_eq_true,Bool.and_eq_true,Bool.not_eq_true',beq_iff_eq] at h1
 obtain ⟨hf,ht,ho⟩:=h1
 have hd:(dropG ps val).contains (p.grp:Int)=false:=by
  rw [Bool.eq_false_iff]
  intro q
  rw [List.contains_iff_mem] at q
  unfold dropG at q
  rw [List.mem_map] at q
  obtain ⟨p2,hp2,e⟩:=q
  rw [List.mem_filter] at hp2
  obtain ⟨hm,hc⟩:=hp2
  rw [Bool.and_eq_true,Bool.and_eq_true,beq_iff_eq] at hc
  obtain ⟨c1,c2,c3⟩:=hc
  rw [Bool.eq_false_iff] at ho
  refine ho ?_
  rw [List.contains_iff_mem]
  unfold othG
  rw [List.mem_map]
  refine ⟨p2,?_,e⟩
  rw [List.mem_filter]
  refine ⟨hm,?_⟩
  have:(p2.txt == key)=false:=by
   rw [beq_eq_false_iff_ne]
   intro q
   rw [q] at c3; exact h0 c3
  rw [c1,this,c2]; rfl
 unfold tokF
 rw [List.mem_flatMap]
 refine ⟨p,hp,?_⟩
 unfold tokP
 rw [hd,if_neg (by simp),if_pos hf,if_pos ht]
 simp
/-- The value of a field does not lean on the suffix, but for the suffix itself. -/
theorem valS_suf (c:FilT) (s:Bs):valS { c with suffix:=s } kSuffix=s:=by
 unfold valS specL
 rfl
theorem valS_other (c:FilT) (s k:Bs) (h:k≠kSuffix):valS { c with suffix:=s } k=valS c k:=by
 have hk:(kSuffix == k)=false:=by rw [beq_eq_false_iff_ne]; exact fun e=>h e.symm
 unfold valS specL
 simp only [List.find?_cons,hk]
 rfl
/-- A citation with a suffix. -/
theorem cite_tok {y:StyT} (hy:styE y=0) (hn:y.numeric=false) (c:FilT) (s:Bs) (hs:s≠[]):fillS { c with suffix:=s } y.cite=tokS s (tokF (splL y.cite) (valS { c with suffix:=[97] }) kSuffix) :=
 tokF_fill _ _ _ _ s hs (by rw [valS_suf]; simp) (valS_suf c s) (fun k hk=>by rw [valS_other c s k hk,valS_other c [97] k hk])
theorem cite_hole {y:StyT} (hy:styE y=0) (hn:y.numeric=false) (c:FilT):none∈tokF (splL y.cite) (valS { c with suffix:=[97] }) kSuffix:=by
 have h:=(sty_freeC hy).2
 rw [hn] at h
 exact tokF_hole _ _ _ (by rw [valS_suf]; simp) h
end Go.Proofs.YtmcoomlkbgiboaaGreatDoor

/- Plain: the suffixes of sources. No condition. -/
set_option linter.all false
namespace Go.Proofs.YtmcoomlkbgiboaaGreatDoor
open Go.RowKit

/-- A source to be filled in. -/
def filT (s:SrcT) (y:StyT) (lang suf:Bs) (n:Int):FilT:=⟨s.key,s.type,s.author,s.editor,s.fields,lang,suf,n,y.most⟩
/-- How a source is cited. -/
def citS (s:SrcT) (y:StyT) (lang suf:Bs):Bs:=fillS (filT s y lang suf 0) y.cite
def citX (y:StyT) (lang:Bs) (s:SrcT):CitX:=(citS s y lang [],tokF (splL y.cite) (valS (filT s y lang [97] 0)) kSuffix)
theorem citX_n {y:StyT} (hy:styE y=0) (hn:y.numeric=false) (lang:Bs) (s:SrcT) (n:Nat):citS s y lang (letL n)=citN (citX y lang s) n:=by
 unfold citN
 split
 ·rename_i q; subst q; unfold letL; rw [letR_zero]; rfl
 ·rename_i q
  exact cite_tok hy hn (filT s y lang [] 0) (letL n) (letL_ne (by omega))
theorem citX_hole {y:StyT} (hy:styE y=0) (hn:y.numeric=false) (lang:Bs) (s:SrcT):none∈(citX y lang s).2:=cite_hole hy hn (filT s y lang [] 0)
/-- Suffixes: the error and the suffixes. -/
def sufR (y:StyT) (lang:Bs) (l:List SrcT):Int × List Bs:=if styE y=0 then (0,if y.numeric=true then l.map fun _=>[] else (sufN (l.map (citX y lang))).map letL) else (styE y,[])
/-- Numbers stay small. -/
theorem frs_le {ps:List Bs} {done:List CitX} {st:SufS} (h:SufI ps done st) {x:CitX} (hx:none∈x.2):frsN st.taken x st.taken.length (st.next (shpX x))≤st.taken.length+1:=by
 obtain ⟨h1,h2,h3⟩:=h.old hx
 have:=pig_cit hx (frsN st.taken x st.taken.length (st.next (shpX x)) - 1) st.taken 1 (by omega) (fun j hj=>h3 (1+j) (by omega) (by omega))
 omega
theorem taken_le {ps:List Bs} {done:List CitX} {st:SufS} (h:SufI ps done st) (hl:done.length≤ps.length):st.taken.length≤2 * ps.length:=by
 have h1:=h.tl
 have h2:=List.length_filter_le (aloneB ps) ps
 omega
end Go.Proofs.YtmcoomlkbgiboaaGreatDoor

/- cite.Suffixes$1: how a source is cited. Conditions: lengths, the listed variables. -/
set_option linter.all false
namespace Go.Proofs.YtmcoomlkbgiboaaGreatDoor
open Go.RowKit

theorem FitL.fitV {s:SrcT} (h:FitL s) (y:StyT) (hy : -9223372036854775808≤y.most∧y.most≤9223372036854775807) (lang suf:Bs) (hs:suf.length≤1000) (n:Int) (hn : -9223372036854775808≤n∧n≤9223372036854775807):FitV (filT s y lang suf n):=by
 obtain ⟨h1,h2,h3,h4,h5,h6⟩:=h
 have h7:=fldL_len h5 kYr
 have hq:∀ q∈s.author ++ s.editor,size4 q≤10000:=fun q hq=>by
  have:=h6 q hq
  unfold size4; omega
 refine ⟨⟨?_,?_,fun q hx=>hq q (List.mem_append_left _ hx),fun q hx=>hq q (List.mem_append_right _ hx),hy,?_,?_,hn⟩,?_,?_,?_,fun p hp=>?_⟩
 ·show s.author.length≤_; omega
 ·show s.editor.length≤_; omega
 ·show s.fields.length≤_; omega
 ·show ((fieldL s.fields kYr).getD []).length≤_; omega
 ·show s.key.length≤_; omega
 ·show s.type.length≤_; omega
 ·show suf.length≤_; omega
 ·have:=h5 p hp; omega
set_option maxRecDepth 100000 in
set_option maxHeartbeats 6400000 in
theorem cicited_any (Y L:Nat) (vA vE vF vY:Value) (s:SrcT) (y:StyT) (lang suf:Bs) (w:World) (hen:EnvC w) (hb:Blk w Y 33 (styCells vY y)) (hl:Blk w L 9 #[.string (bs lang)]) (hY:vY.oneCell'=true) (hyc:y.cite.length≤100000) (hym : -9223372036854775808≤y.most∧y.most≤9223372036854775807)
  (hA:Perss w vA s.author) (hE:Perss w vE s.editor) (hF:Prs w vF s.fields) (hft:FitL s) (hs:suf.length≤1000) :
  Calls Tryz.prog 49 #[srcV s.key s.type vA vE vF,.string (bs suf),.pointer (some ⟨Y,0,none⟩),.pointer (some ⟨L,0,none⟩)] w fun e w'=>e=.returned (.string (bs (citS s y lang suf)))∧Kept w w':=by
 obtain ⟨aA,cA,rfl,lA⟩:=hA.shape
 obtain ⟨aE,cE,rfl,lE⟩:=hE.shape
 obtain ⟨aF,cF,rfl,lF⟩:=(show ∃ a c,vF=.slice a s.fields.length c∧s.fields.length≤c by obtain ⟨a,c,e,l,_⟩:=hF; exact ⟨a,c,e,l⟩)
 have HK0:=Lib.hid (kept_alloc w (.cells #[.string (bs s.key),.string (bs s.type),.slice aA s.author.length cA,.slice aE s.editor.length cE,.slice aF s.fields.length cF] 50))
 have HBX:=Lib.hid (Blk.new w 50 #[.string (bs s.key),.string (bs s.type),.slice aA s.author.length cA,.slice aE s.editor.length cE,.slice aF s.fields.length cF])
 have HFL:=Lib.hid (fun w' (k:Kept w w')=>sfill_any (filT s y lang suf 0) y.cite (.slice aA s.author.length cA) (.slice aE s.editor.length cE) (.slice aF s.fields.length cF) vY y w' rfl hY (hen.gnd.kept k) (tab_kept hen.tab k) hyc (hft.fitV y hym lang suf hs 0 (by omega)) (hA.kept k) (hE.kept k) (hF.kept k))
 have HST:=Lib.hid (fun w' (k:Kept w w')=>sty_cells (hb.kept k))
 have HLG:=Lib.hid (fun w' (k:Kept w w')=>hl.kept k)
 unfold styV styCells at HFL
 simp only [filT] at HFL
 have HCS:Hid (fillS (filT s y lang suf 0) y.cite=citS s y lang suf):=rfl
 unfold filT at HCS
 rw [HCS.out] at HFL
 generalize citS s y lang suf=R at *
 generalize splE y.cite=E at *
 clear hA hE hF hb hl hft HCS hen
 go_enter Tryz.func49,Tryz.ntmps49
 go_upto_region 1 with fail
 obtain ⟨B,HBB⟩:∃ B,Hid (w.heap.size=B):=⟨_,rfl⟩
 rw [HBB.out] at HBX ⊢
 generalize w.alloc _=w0 at *
 obtain ⟨⟨b0,b1,b2,b3,b4,b5,b6,b7,b8,b9⟩,bz⟩:=HST.out w0 HK0.out
 have l0:=(HLG.out w0 HK0.out).cell 0 _ rfl
 have lz:=(HLG.out w0 HK0.out).lt
 have x0:=HBX.out.cell 0 _ rfl
 have x1:=HBX.out.cell 1 _ rfl
 have x2:=HBX.out.cell 2 _ rfl
 have x3:=HBX.out.cell 3 _ rfl
 have x4:=HBX.out.cell 4 _ rfl
 have xz:=HBX.out.lt
 have HFX:=Lib.hid (HFL.out w0 HK0.out)
 clear HFL HST HLG HBB
 go_wp2_with fail
 refine HFX.out.mono ?_
 rintro e w2 ⟨rfl,hk2⟩
 have HK2:=Lib.hid (HK0.out.trans hk2)
 clear hk2 HFX x0 x1 x2 x3 x4 xz b0 b1 b2 b3 b4 b5 b6 b7 b8 b9 bz l0 lz HBX
 go_wp2_with fail
 (try go_ret)
 exact ⟨rfl,HK2.out⟩
end Go.Proofs.YtmcoomlkbgiboaaGreatDoor

/- Documents in memory: the cells of an element; sizes of documents. No condition. -/
set_option linter.all false
namespace Go.Proofs.YtmcoomlkbgiboaaGreatDoor
open Go.RowKit

theorem Lns.at_ {S:Nat→Prop} {n:Nat} {w:World} {a:Option Addr} {m c:Nat} {xs:List Inl} (h:Lns S (n+1) w (.slice a m c) xs) (j:Nat) (x:Inl) (hx:xs[j]? = some x) :
  ∃ g o vC vP vA vT vK,a=some ⟨g,o,none⟩∧g<w.heap.size∧S g∧m=xs.length∧xs.length≤c ∧
   (w.cell? ⟨g,o+j * 10,none⟩=some (.int .i64 x.kind)∧w.cell? ⟨g,o+j * 10+1,none⟩=some (.string (bs x.text))∧w.cell? ⟨g,o+j * 10+2,none⟩=some (.string (bs x.dest))∧w.cell? ⟨g,o+j * 10+3,none⟩=some (.string (bs x.title))∧w.cell? ⟨g,o+j * 10+4,none⟩=some (.string (bs x.id))∧w.cell? ⟨g,o+j * 10+5,none⟩=some vC∧w.cell? ⟨g,o+j * 10+6,none⟩=some vP∧w.cell? ⟨g,o+j * 10+7,none⟩=some vA∧w.cell? ⟨g,o+j * 10+8,none⟩=some vT∧w.cell? ⟨g,o+j * 10+9,none⟩=some vK) ∧
   (∀ i u,(inlC x vC vP vA vT vK)[i]? = some u→w.cell? ⟨g,o+j * 10+i,none⟩=some u)∧(Strs w vC x.cls∧InB S vC x.cls.length)∧(Prs w vP x.prs∧InB S vP x.prs.length)∧(Strs w vA x.args∧InB S vA x.args.length)∧Cits S w vT x.cits∧Lns S n w vK x.kids:=by
 obtain ⟨g,o,cs,ha,hg,hS,hl,hc,hR,hm,hle⟩:=RowR.at_ (show RowR S 10 _ _ _ _ from h) j x hx
 obtain ⟨vC,vP,vA,vT,vK,rfl,r1,r2,r3,r4,r5⟩:=hR
 exact ⟨g,o,vC,vP,vA,vT,vK,ha,hg,hS,hm,hle,⟨by simpa using hc 0 _ rfl,hc 1 _ rfl,hc 2 _ rfl,hc 3 _ rfl,hc 4 _ rfl,hc 5 _ rfl,hc 6 _ rfl,hc 7 _ rfl,hc 8 _ rfl,hc 9 _ rfl⟩,hc,r1,r2,r3,r4,r5⟩
theorem Bls.at_ {S:Nat→Prop} {m0 n:Nat} {w:World} {a:Option Addr} {m c:Nat} {xs:List Blo} (h:Bls S m0 (n+1) w (.slice a m c) xs) (j:Nat) (x:Blo) (hx:xs[j]? = some x) :
  ∃ g o vC vP vL vK,a=some ⟨g,o,none⟩∧g<w.heap.size∧S g∧m=xs.length∧xs.length≤c ∧
   (w.cell? ⟨g,o+j * 11,none⟩=some (.int .i64 x.kind)∧w.cell? ⟨g,o+j * 11+1,none⟩=some (.int .i64 x.level)∧w.cell? ⟨g,o+j * 11+2,none⟩=some (.string (bs x.info))∧w.cell? ⟨g,o+j * 11+3,none⟩=some (.string (bs x.text))∧w.cell? ⟨g,o+j * 11+4,none⟩=some (.string (bs x.dest))∧w.cell? ⟨g,o+j * 11+5,none⟩=some (.string (bs x.title))∧w.cell? ⟨g,o+j * 11+6,none⟩=some (.string (bs x.id))∧w.cell? ⟨g,o+j * 11+7,none⟩=some vC∧w.cell? ⟨g,o+j * 11+8,none⟩=some vP∧w.cell? ⟨g,o+j * 11+9,none⟩=some vL∧w.cell? ⟨g,o+j * 11+10,none⟩=some vK) ∧
   (∀ i u,(bloC x vC vP vL vK)[i]? = some u→w.cell? ⟨g,o+j * 11+i,none⟩=some u)∧(Strs w vC x.cls∧InB S vC x.cls.length)∧(Prs w vP x.prs∧InB S vP x.prs.length)∧Lns S m0 w vL x.line∧Bls S m0 n w vK x.kids:=by
 obtain ⟨g,o,cs,ha,hg,hS,hl,hc,hR,hm,hle⟩:=RowR.at_ (show RowR S 11 _ _ _ _ from h) j x hx
 obtain ⟨vC,vP,vL,vK,rfl,r1,r2,r3,r4⟩:=hR
 exact ⟨g,o,vC,vP,vL,vK,ha,hg,hS,hm,hle,⟨by simpa using hc 0 _ rfl,hc 1 _ rfl,hc 2 _ rfl,hc 3 _ rfl,hc 4 _ rfl,hc 5 _ rfl,hc 6 _ rfl,hc 7 _ rfl,hc 8 _ rfl,hc 9 _ rfl,hc 10 _ rfl⟩,hc,r1,r2,r3,r4⟩
theorem Lns.no {S:Nat→Prop} {w:World} {v:Value} {xs:List Inl} (h:Lns S 0 w v xs):xs=[]:=h.1
theorem Bls.no {S:Nat→Prop} {m:Nat} {w:World} {v:Value} {xs:List Blo} (h:Bls S m 0 w v xs):xs=[]:=h.1
mutual
/-- No text, no list of an inline is too long. -/
def okI1:Inl→Prop
 | .mk _ text dest title id cls prs args cits kids=>(text.length≤1000000∧dest.length≤1000000∧title.length≤1000000∧id.length≤1000000∧cls.length≤1000000∧prs.length≤1000000∧args.length≤1000000∧cits.length≤1000000∧kids.length≤1000000)∧okIL kids
def okIL:List Inl→Prop
 | []=>True
 | x :: xs=>okI1 x∧okIL xs
end
mutual
def okB1:Blo→Prop
 | .mk _ _ info text dest title id cls prs line kids=>(info.length≤1000000∧text.length≤1000000∧dest.length≤1000000∧title.length≤1000000∧id.length≤1000000∧cls.length≤1000000∧prs.length≤1000000∧line.length≤1000000∧kids.length≤1000000)∧okIL line∧okBL kids
def okBL:List Blo→Prop
 | []=>True
 | x :: xs=>okB1 x∧okBL xs
end
theorem okIL_at {xs:List Inl} (h:okIL xs):∀ x∈xs,okI1 x:=by
 induction xs with
 | nil=>intro x hx; cases hx
 | cons y ys ih =>
  intro x hx
  rcases List.mem_cons.1 hx with rfl | hx
  ·exact h.1
  ·exact ih h.2 x hx
theorem okBL_at {xs:List Blo} (h:okBL xs):∀ x∈xs,okB1 x:=by
 induction xs with
 | nil=>intro x hx; cases hx
 | cons y ys ih =>
  intro x hx
  rcases List.mem_cons.1 hx with rfl | hx
  ·exact h.1
  ·exact ih h.2 x hx
theorem okI1.fit {x:Inl} (h:okI1 x):(x.text.length≤1000000∧x.dest.length≤1000000∧x.title.length≤1000000∧x.id.length≤1000000∧x.cls.length≤1000000∧x.prs.length≤1000000∧x.args.length≤1000000∧x.cits.length≤1000000∧x.kids.length≤1000000)∧okIL x.kids:=by cases x; exact h
theorem okB1.fit {x:Blo} (h:okB1 x):(x.info.length≤1000000∧x.text.length≤1000000∧x.dest.length≤1000000∧x.title.length≤1000000∧x.id.length≤1000000∧x.cls.length≤1000000∧x.prs.length≤1000000∧x.line.length≤1000000∧x.kids.length≤1000000)∧okIL x.line∧okBL x.kids:=by cases x; exact h
theorem plainL_take {xs:List Inl} {k:Nat} {x:Inl} (h:xs[k]? = some x):plainL (xs.take (k+1))=plainL (xs.take k) ++ plain1 x:=by
 rw [take_snoc h,plainL_app]; show _ ++ (plain1 x ++ [])=_; rw [List.append_nil]
theorem plainL_le (xs:List Inl) (k:Nat):(plainL (xs.take k)).length≤(plainL xs).length:=by
 conv=>rhs; rw [← List.take_append_drop k xs]
 rw [plainL_app,List.length_append]; omega
theorem deepL_take {xs:List Inl} {k:Nat} {x:Inl} (h:xs[k]? = some x):deepL (xs.take (k+1))=deepL (xs.take k) ++ deep1 x:=by
 rw [take_snoc h,deepL_app]; show _ ++ (deep1 x ++ [])=_; rw [List.append_nil]
theorem deepL_le (xs:List Inl) (k:Nat):(deepL (xs.take k)).length≤(deepL xs).length:=by
 conv=>rhs; rw [← List.take_append_drop k xs]
 rw [deepL_app,List.length_append]; omega
theorem inlsL_take {xs:List Blo} {k:Nat} {x:Blo} (h:xs[k]? = some x):inlsL (xs.take (k+1))=inlsL (xs.take k) ++ inls1 x:=by
 rw [take_snoc h,inlsL_app]; show _ ++ (inls1 x ++ [])=_; rw [List.append_nil]
theorem inlsL_le (xs:List Blo) (k:Nat):(inlsL (xs.take k)).length≤(inlsL xs).length:=by
 conv=>rhs; rw [← List.take_append_drop k xs]
 rw [inlsL_app,List.length_append]; omega
end Go.Proofs.YtmcoomlkbgiboaaGreatDoor
