/- Steps of regions that draw their order; a cut behind such a region; rows of whole numbers; a map of one key. No condition. -/
import Derived.Test.YtmcoomlkbgiboaaGreatDoorK13
import Derived.Test.YtmcoomlkbgiboaaGreatDoorK04
import Derived.Test.YtmcoomlkbgiboaaGreatDoorK27
import Derived.Test.YtmcoomlkbgiboaaGreatDoorK07
import Derived.Test.YtmcoomlkbgiboaaGreatDoorK28
import Derived.Test.YtmcoomlkbgiboaaGreatDoorK29
import Derived.Test.YtmcoomlkbgiboaaGreatDoorK30
import Derived.Test.YtmcoomlkbgiboaaGreatDoorK26
import Derived.Test.YtmcoomlkbgiboaaGreatDoorK20
import Derived.Test.YtmcoomlkbgiboaaGreatDoorK31
import Derived.Test.YtmcoomlkbgiboaaGreatDoorK01
import Derived.Test.YtmcoomlkbgiboaaGreatDoorK02

set_option linter.all false
namespace Go.Proofs.YtmcoomlkbgiboaaGreatDoor
open Go.RowKit

section
variable {α β:Type} {R:(Nat→Prop)→World→List Value→α→Prop} {R':(Nat→Prop)→World→List Value→β→Prop} {k k':Nat} {A A':Nat→Prop} {base base':Nat} {e e':TypeId} {w w':World} {v v':Value} {xs:List α} {ys:List β}
/-- An own row lies in no block that is known as something else. -/
theorem OutG.ne_blk (h:OutG R k A base e w v xs) {b:Nat} {t:TypeId} {cs:Array Value} (hb:Blk w b t cs) (hne:e≠t):v.ownBlock≠some b:=by
 intro hg
 obtain ⟨_,_,_,ho,_⟩:=h
 rcases ho.2 with ⟨hv,_⟩ | ⟨g1,_,cur,hv,_,hbb,_⟩
 ·rw [hv] at hg; cases hg
 ·rw [hv] at hg
  have e1:g1=b:=by simpa [Value.ownBlock] using hg
  rw [e1] at hbb
  have h2:w.heap[b]? = some (.cells cs t (0,0)):=hb
  rw [h2] at hbb
  cases hbb
  exact hne rfl
theorem step_append_out {P:Program} (hR:ReadK R) {ops:Array Oper} {o:Oper} {a:Act} {K:Act→World→Prop} {Q:Exit→Act→World→Prop} {E:Prop} (hgd:o.guard=none) (s x:Operand) (t:TypeId)
  (ho:o.op=.call { callee:=.builtin .append,args:=#[s,x],argTypes:=#[t,t] })
  (i:TypeInfo) (z:Value) (bytes:Nat) (ht:P.underlying t=some (.slice e)) (hi:P.info? e=some i) (hz:i.zero=some z) (hsize:i.size=k) (hby:i.bytes=bytes) (hzs:z.cells.size=k) (hsz:0<k)
  (hs:a.eval s=v) (hown:OutG R k A base e w v xs) (g0:Nat) (cs:List Value) (y:α) (hx:a.eval x=.slice (some ⟨g0,0,none⟩) 1 1) (hb:∀ j u,cs[j]? = some u→w.cell? ⟨g0,j,none⟩=some u) (hcl:cs.length=k)
  (hy:R (fun g=>A g∧v.ownBlock≠some g) w cs y) (h63:xs.length+1≤maxLen) (hbytes:(xs.length+1) * bytes≤140737488355328) (hbase:base≤w.heap.size) (H:Nat) (hH:w.heap.size=H)
  (h:∀ g cap w',OutG R k A base e w' (.slice (some ⟨g,0,none⟩) (xs.length+1) cap) (xs ++ [y])→w.grownBy w' v.ownBlock→(v.ownBlock=some g∨g=H)→g<w'.heap.size→K (a.put o.dst (.slice (some ⟨g,0,none⟩) (xs.length+1) cap)) w') :
  if Region.wanted o (yielded ops a.tmps)=true then Oper.wp P o a w K Q else E:=by
 obtain ⟨css,h1,h2,ho2,h4⟩:=hown
 refine step_append_lies w hgd s x t ho base e i z k bytes ht hi hz hsize hby hzs hsz v xs.length css.flatten hs ho2 ⟨g0,0,none⟩ 1 1 cs hx (by rw [hcl,Nat.one_mul]) (fun j u hu=>by rw [addr_plus,Nat.zero_add]; exact hb j u hu) (hR.one hy) (by omega) h63 hbytes hbase H hH ?_
 intro g cap w' q1 q2 q3 q4
 refine h g cap w' ?_ q2 q3 q4
 subst hH
 exact OutG.app (ys:=[y]) (css2:=[cs]) hR h1 h2 h4 rfl (fun c hc=>by simp at hc; subst hc; exact hcl) (fun j c u hc hu=>by
  cases j with
  | zero=>cases hc; cases hu; exact hy
  | succ j=>simp at hc) (by simpa using q1) q2 q3
end
section
variable {P:Program} {tm ti te:TypeId}
/-- Look-up without the second answer. -/
theorem lookT (hm:P.underlying tm=some (.map ti te)) (hi:P.underlying ti=some .string) (w:World) (m:Nat) (es:List (Bs × Value)) (k:Bs) (z:Value) (hz:(zeroValue te).run P w=.ok z w) (h:MapT w m es) :
  (Instr.lookup tm (.map (some m)) (.string (bs k)) false).run P w=.ok ((getT es k).getD z) w:=by
 unfold MapT at h
 unfold Instr.lookup
 simp only [Sem.run_bind,run_underlying hm,Result.andThen]
 rcases runT hi w es k with ⟨g1,g2⟩ | ⟨n,v,g1,_,g3,_⟩
 ·simp only [getObj,Sem.run_bind,Sem.run,h,Result.andThen,Sem.run_pure,check_str hi,g2,g1,hz]
  simp [Sem.run_pure]
 ·simp only [getObj,Sem.run_bind,Sem.run,h,Result.andThen,Sem.run_pure,check_str hi,g3,g1]
  simp [Sem.run_pure]
/-- A key is put, new or again. -/
theorem upT (hm:P.underlying tm=some (.map ti te)) (hi:P.underlying ti=some .string) (w:World) (m:Nat) (es:List (Bs × Value)) (k:Bs) (v:Value) (h:MapT w m es) :
  ∃ es',(∀ k',getT es' k'=if k'=k then some v else getT es k')∧(Instr.mapUpdate tm (.map (some m)) (.string (bs k)) v).run P w=.ok () (putT w m es'):=by
 cases hk:getT es k with
 | none=>exact ⟨es ++ [(k,v)],getT_snoc hk v,insT hm hi w m es k v h hk⟩
 | some v0=>exact overT hm hi w m es k v v0 h hk
end
end Go.Proofs.YtmcoomlkbgiboaaGreatDoor

/- cite.Order: the sources in the order of the bibliography, or the error. Conditions: lengths, the listed variables. -/
set_option linter.all false
namespace Go.Proofs.YtmcoomlkbgiboaaGreatDoor
open Go.RowKit

/-- What the walks of cite ask of the listed variables. -/
structure EnvC (w:World):Prop where
 gnd:Gnd w
 tab:Lib.TabIs Tryz.prog w "internal/strconv.uint64pow10" .u64 Lib.pow10Tab
 asc:Lib.TabIs Tryz.prog w "strings.asciiSpace" .u8 Lib.asciiSpaceTab
theorem EnvC.kept {w w':World} (h:EnvC w) (k:Kept w w'):EnvC w':=⟨h.gnd.kept k,tab_kept h.tab k,Lib.tabBelow_of_tabIs h.asc w' k⟩
theorem take_map {α β:Type} {f:α→β} {l:List α} {k:Nat} {x:α} (h:l[k]? = some x):(l.take (k+1)).map f=(l.take k).map f ++ [f x]:=by
 rw [List.take_succ,h,List.map_append]; rfl
theorem Tryz.infoSor:(Tryz.prog.info? 86).map (fun i=>(i.zero,i.size,i.bytes))=some (some (.agg #[.string ⟨#[]⟩,.int .i64 0,.string ⟨#[]⟩,.string ⟨#[]⟩,.string ⟨#[]⟩,.string ⟨#[]⟩,.slice none 0 0,.slice none 0 0,.slice none 0 0]),9,160):=by kernel_rfl
theorem Tryz.infoSo5:(Tryz.prog.info? 50).map (fun i=>(i.zero,i.size,i.bytes))=some (some (.agg #[.string ⟨#[]⟩,.string ⟨#[]⟩,.slice none 0 0,.slice none 0 0,.slice none 0 0]),5,104):=by kernel_rfl
def OrdP (r:Int × List SrcT) (w:World) (e:Ending) (w':World):Prop:=∃ v,e=.returned (.tuple #[v,.int .i64 r.1])∧OutG SrcK 5 (fun g=>w.heap.size≤g) w.heap.size 50 w' v r.2∧Kept w w'
set_option maxRecDepth 100000 in
set_option maxHeartbeats 12800000 in
theorem ciord_any (v vE:Value) (l:List SrcT) (y:StyT) (lang:Bs) (w:World) (hen:EnvC w) (hv:Srcs w v l) (hl:l.length≤19) (hfit:∀ s∈l,FitL s) (hE:Prs w vE y.entries) (hy:SmallY y) :
  Calls Tryz.prog 15 #[v,styV vE y,.string (bs lang)] w (OrdP (ordR y lang l) w):=by
 obtain ⟨i0,hi,hz0,hz1,hz2⟩:=info_parts Tryz.infoSor
 obtain ⟨i5,hi5,hz50,hz51,hz52⟩:=info_parts Tryz.infoSo5
 obtain ⟨a,c,rfl,hc⟩:=(show ∃ a c,v=.slice a l.length c∧l.length≤c by obtain ⟨a,c,e,q,_⟩:=hv; exact ⟨a,c,e,q⟩)
 obtain ⟨aE,cE,rfl,lE⟩:=(show ∃ a c,vE=.slice a y.entries.length c∧y.entries.length≤c by obtain ⟨a,c,e,q,_⟩:=hE; exact ⟨a,c,e,q⟩)
 have HK0:=Lib.hid (kept_alloc w (.cells (styCells (.slice aE y.entries.length cE) y) 33))
 have HY0:=Lib.hid (Blk.new w 33 (styCells (.slice aE y.entries.length cE) y))
 have HCH:=Lib.hid (fun w' (k:Kept w w')=>scheck_any (.slice aE y.entries.length cE) y w' (hen.gnd.kept k) hy (hE.kept k))
 have HEN:=Lib.hid hen
 have HV:=Lib.hid hv
 have HFT:=Lib.hid hfit
 have HFIN0:Hid (styE y≠0→∀ w',Kept w w'→OrdP (ordR y lang l) w (.returned (.tuple #[.slice none 0 0,.int .i64 (styE y)])) w'):=fun h w' k=>by
  unfold ordR; rw [if_neg h]
  exact ⟨_,rfl,OutG.nil _ _ _ _ _ _,k⟩
 have HFIN1:Hid (styE y=0→∀ u w',OutG SrcK 5 (fun g=>w.heap.size≤g) w.heap.size 50 w' u (ordL (locC lang) (wsY y) l)→Kept w w'→OrdP (ordR y lang l) w (.returned (.tuple #[u,.int .i64 0])) w'):=fun h u w' h1 k=>by
  unfold ordR; rw [if_pos h]
  exact ⟨_,rfl,h1,k⟩
 generalize OrdP (ordR y lang l) w=P at *
 clear hen hv hfit hE
 obtain ⟨B,HBB⟩:∃ B,Hid (w.heap.size=B):=⟨_,rfl⟩
 have hwB:w.heap.size≤B:=by rw [HBB.out]; exact Nat.le_refl _
 have HB10:=Lib.hid (sty_cells HY0.out)
 unfold styV styCells at HCH
 unfold styCells at HK0
 unfold styV styCells
 go_enter Tryz.func15,Tryz.ntmps15
 go_upto_region 1 with fail
 rw [HBB.out] at HY0 HB10
 rw [HBB.out]
 unfold styCells at HY0 HB10
 generalize w.alloc _=w0 at *
 have hBw0:B<w0.heap.size:=HY0.out.lt
 obtain ⟨⟨b0,b1,b2,b3,b4,b5,b6,b7,b8,b9⟩,bz⟩:=HB10.out
 have HCX:=Lib.hid (HCH.out w0 HK0.out)
 clear HCH
 go_wp2_with fail
 refine HCX.out.mono ?_
 rintro e w1 ⟨rfl,hk1⟩
 have HK1:=Lib.hid (HK0.out.trans hk1)
 have HY1:=Lib.hid (HY0.out.kept hk1)
 clear hk1 HCX HY0 HK0 HB10 b0 b1 b2 b3 b4 b5 b6 b7 b8 b9 bz
 by_cases he:¬ styE y=0
 ·have hne:(styE y == 0)=false:=by rw [beq_eq_false_iff_ne]; exact he
  have hnb:(styE y != 0)=true:=by rw [bne_iff_ne]; exact he
  have HF:=Lib.hid (HFIN0.out he w1 HK1.out)
  generalize styE y=E at *
  go_wp2_with fail
  (try go_ret2)
  exact HF.out
 ·have he:styE y=0:=Decidable.not_not.1 he
  have HFN:=Lib.hid (HFIN1.out he)
  have HWS:=Lib.hid (srtE_bytes (styE_sort he))
  have hBw1:B<w1.heap.size:=HY1.out.lt
  rw [he]
  clear HFIN0 HFIN1
  go_wp2_with fail
  go_loopw [9,27] (fun o i wr=>∃ (k:Nat),k≤l.length∧i=.int .i64 k∧Hid (OutG SorK 9 (fun g=>g<w1.heap.size) w1.heap.size 86 wr o ((l.take k).map sorOf))∧Hid (Kept w1 wr)) (fun _ i _=>l.length - (intOf i).toNat)
  case atStart=>exact ⟨0,Nat.zero_le _,rfl,OutG.nil _ _ _ _ _ _,Kept.refl _⟩
  case round =>
   obtain ⟨k,hk,rfl,HGR,HKR⟩:=hrel
   by_cases hlt:k<l.length
   ·obtain ⟨x,hx⟩:∃ x,l[k]? = some x:=⟨_,List.getElem?_eq_getElem hlt⟩
    have hft:=HFT.out x (List.mem_of_getElem? hx)
    have HT:=Lib.hid (take_map (f:=sorOf) hx)
    obtain ⟨us,HUS⟩:∃ us,Hid ((l.take k).map sorOf=us):=⟨_,rfl⟩
    have hul:us.length≤19:=by rw [← HUS.out,List.length_map,List.length_take]; omega
    rw [HUS.out] at HGR HT
    obtain ⟨g,o,vA,vE,vF,rfl,hg,e0,e1,e2,e3,e4,pA,pE,pF⟩:=Srcs.at_ (HV.out.kept HK1.out) k x hx
    have c0:=(HKR.out.cell (p:=⟨g,o+k * 5,none⟩) hg).trans e0
    have c1:=(HKR.out.cell (p:=⟨g,o+k * 5+1,none⟩) hg).trans e1
    have c2:=(HKR.out.cell (p:=⟨g,o+k * 5+2,none⟩) hg).trans e2
    have c3:=(HKR.out.cell (p:=⟨g,o+k * 5+3,none⟩) hg).trans e3
    have c4:=(HKR.out.cell (p:=⟨g,o+k * 5+4,none⟩) hg).trans e4
    have HSL:Hid (SrcL (fun g=>g<w1.heap.size) w1 vA vE vF x):=⟨⟨pA,pA.ltB⟩,⟨pE,pE.ltB⟩,pF,pF.ltB⟩
    obtain ⟨aA,cA,rfl,lA⟩:=pA.shape
    obtain ⟨aS,cS,rfl,lS⟩:=pE.shape
    obtain ⟨aF,cF,rfl,lF⟩:=(show ∃ a c,vF=.slice a x.fields.length c∧x.fields.length≤c by obtain ⟨a,c,e,l,_⟩:=pF; exact ⟨a,c,e,l⟩)
    have hgr:g<wr.heap.size:=Nat.lt_of_lt_of_le hg HKR.out.size
    have HKA:=Lib.hid (kept_alloc wr (.cells #[.string (bs x.key),.string (bs x.type),.slice aA x.author.length cA,.slice aS x.editor.length cS,.slice aF x.fields.length cF] 50))
    have HIB:=Lib.hid (Blk.new wr 50 #[.string (bs x.key),.string (bs x.type),.slice aA x.author.length cA,.slice aS x.editor.length cS,.slice aF x.fields.length cF])
    have HFD:=Lib.hid (fun w' (kk:Kept w1 w')=>field_any x.key x.type (.slice aA x.author.length cA) (.slice aS x.editor.length cS) (.slice aF x.fields.length cF) x.fields wTitle w' (pF.kept kk) (by have:=hft.2.2.1; omega))
    unfold FieldPost wTitle at HFD
    have HAU:=Lib.hid (fun w' (kk:Kept w1 w')=>ciauthor_any (.slice aA x.author.length cA) (.slice aS x.editor.length cS) (.slice aF x.fields.length cF) x w' (pA.kept kk) (pE.kept kk) rfl (by have:=authL_len hft; omega) (fun q hq=>by have:=hft.2.2.2.2.2 q (authL_sub x q hq); omega) (by have:=authK_len hft; omega))
    have HYR:=Lib.hid (fun w' (kk:Kept w1 w')=>year_wide x.key x.type (.slice aA x.author.length cA) (.slice aS x.editor.length cS) (.slice aF x.fields.length cF) x.fields w' (pF.kept kk) (by have:=hft.2.2.1; omega) (by have:=fldL_len hft.2.2.2.2.1 kYr; unfold kYr at this; omega))
    have HSO:Hid (sorOf x=⟨⟨authK x,yearL ((fieldL x.fields [121,101,97,114]).getD []),(fieldL x.fields [116,105,116,108,101]).getD [],x.key⟩,x⟩):=rfl
    rw [HSO.out] at HT
    generalize authK x=au at *
    generalize yearL ((fieldL x.fields [121,101,97,114]).getD [])=yr at *
    obtain ⟨tt,HTT⟩:∃ tt,Hid ((fieldL x.fields [116,105,116,108,101]).getD []=tt):=⟨_,rfl⟩
    rw [HTT.out] at HT HFD
    generalize (fieldL x.fields [116,105,116,108,101]).isSome=tb at *
    clear e0 e1 e2 e3 e4 pA pE pF hx hft HSO HTT
    go_wp2_with fail
    refine (HFD.out _ (HKR.out.trans HKA.out)).mono ?_
    rintro e w3 ⟨rfl,hk3⟩
    have HK3:=Lib.hid ((HKR.out.trans HKA.out).trans hk3)
    have HI3:=Lib.hid (HIB.out.kept hk3)
    have HG3:=Lib.hid ((HGR.out.kept sorK HKA.out).kept sorK hk3)
    obtain ⟨I,HII⟩:∃ I,Hid (wr.heap.size=I):=⟨_,rfl⟩
    rw [HII.out] at HI3 ⊢
    clear hk3 HFD HKA HIB HGR HKR c0 c1 c2 c3 c4 hgr HII
    go_upto_region 9 with fail
    refine reg_ord9 x (.slice aA x.author.length cA) (.slice aS x.editor.length cS) (.slice aF x.fields.length cF) I tt au yr (by kernel_rfl) ⟨_,rfl,rfl,rfl,rfl⟩ ⟨_,rfl,rfl,rfl,rfl⟩ ⟨_,rfl,rfl,rfl,rfl⟩ ⟨_,rfl,rfl,rfl,rfl⟩ ⟨_,rfl,rfl,rfl,rfl⟩ ⟨_,rfl,rfl,rfl,rfl⟩ ⟨_,rfl,rfl,rfl,rfl⟩ ⟨_,rfl,rfl,rfl,rfl⟩ ⟨_,rfl,rfl,rfl,rfl⟩ ⟨_,rfl,rfl,rfl,rfl⟩
     (by simp) rfl rfl HI3 (fun w' kk=>HAU.out w' (HK3.out.trans kk)) (fun w' kk=>HYR.out w' (HK3.out.trans kk)) ?_
    intro V w4 TB hV hTB hkb hk4
    simp only [Act.put,List.setIfInBounds_toArray,List.set_cons_zero,List.set_cons_succ]
    rw [hV]
    have HK4:=Lib.hid (HK3.out.trans hk4)
    have HI4:=Lib.hid (HI3.out.kept hk4)
    have HTB:=Lib.hid hkb
    have t0:=HTB.out.cell 0 _ rfl
    have t1:=HTB.out.cell 1 _ rfl
    have t2:=HTB.out.cell 2 _ rfl
    have t3:=HTB.out.cell 3 _ rfl
    have tz:=HTB.out.lt
    have i0':=HI4.out.cell 0 _ rfl
    have i1':=HI4.out.cell 1 _ rfl
    have i2':=HI4.out.cell 2 _ rfl
    have i3':=HI4.out.cell 3 _ rfl
    have i4':=HI4.out.cell 4 _ rfl
    have iz:=HI4.out.lt
    have hka:=kept_alloc w4 (.cells #[.string (bs au),.int .i64 yr,.string (bs tt),.string (bs x.key),.string (bs x.key),.string (bs x.type),.slice aA x.author.length cA,.slice aS x.editor.length cS,.slice aF x.fields.length cF] 86)
    have HROW:=Lib.hid (Blk.new w4 86 #[.string (bs au),.int .i64 yr,.string (bs tt),.string (bs x.key),.string (bs x.key),.string (bs x.type),.slice aA x.author.length cA,.slice aS x.editor.length cS,.slice aF x.fields.length cF])
    have HG6:=Lib.hid ((HG3.out.kept sorK hk4).kept sorK hka)
    have HKA:=Lib.hid (HK4.out.trans hka)
    obtain ⟨ar,cr,rfl,hcr,hmr⟩:=HG3.out.form
    have HYY:Hid (SorK (fun g=>g<w1.heap.size∧(Value.slice ar us.length cr).ownBlock≠some g) _ [.string (bs au),.int .i64 yr,.string (bs tt),.string (bs x.key),.string (bs x.key),.string (bs x.type),.slice aA x.author.length cA,.slice aS x.editor.length cS,.slice aF x.fields.length cF] ⟨⟨au,yr,tt,x.key⟩,x⟩) :=
     ⟨_,_,_,rfl,HSL.out.sam (Sam.kept HKA.out) (fun g _ q=>⟨q,fun e=>by have:=(HG3.out.blk g e).1; omega⟩)⟩
    have hbz:w1.heap.size≤(w4.alloc (.cells #[.string (bs au),.int .i64 yr,.string (bs tt),.string (bs x.key),.string (bs x.key),.string (bs x.type),.slice aA x.author.length cA,.slice aS x.editor.length cS,.slice aF x.fields.length cF] 86)).heap.size:=HKA.out.size
    clear hV hTB hkb hk4 hka HK3 HI3 HG3 HSL HAU HYR HK4
    go_wp2_with (at_builtin; refine holdC ?_)
    refine Lib.hid ?_
    refine wpList_append_out sorK rfl (.tmp 44) (.tmp 48) 78 rfl i0 _ 160 Tryz.underlying78 hi hz0 hz1 hz2 rfl (by omega) (by rfl) HG6.out w4.heap.size _ _ (by rfl) (fun j u hu=>HROW.out.cell j u (by rw [← Array.getElem?_toList]; exact hu)) rfl HYY.out (by unfold maxLen; omega) (by omega) hbz _ rfl ?_
    intro g7 c7' w7 hout7 hgrow7 hat7 hlt7
    have HOUT8:Hid (OutG SorK 9 (fun g=>g<w1.heap.size) w1.heap.size 86 w7 (.slice (some ⟨g7,0,none⟩) (us.length+1) c7') ((l.take (k+1)).map sorOf)):=by rw [HT.out]; exact hout7
    have HK7:Hid (Kept w1 w7):=HKA.out.trans' ((Only.grown hgrow7).below HKA.out.size (fun i q=>(HG6.out.blk i q.symm).1))
    clear hout7 hgrow7 hat7 hlt7 HROW HG6 HKA HYY hbz t0 t1 t2 t3 tz i0' i1' i2' i3' i4' iz HI4 HTB
    go_wp2_with fail
    go_roundw
    case rel=>exact ⟨k+1,by omega,by go_num,HOUT8.out,HK7.out⟩
    case measure=>simp [intOf]; omega
   ·obtain rfl:k=l.length:=by omega
    rw [List.take_length] at HGR
    have HKW:=Lib.hid (HK1.out.trans HKR.out)
    have HYR:=Lib.hid (HY1.out.kept HKR.out)
    have HEW:=Lib.hid (HEN.out.kept HKW.out)
    have HLC:=Lib.hid (loccol_any lang wr HEW.out.gnd HEW.out.tab)
    unfold LocP at HLC
    have HSC:=Lib.hid (locC_small lang)
    have HIG:Hid ((locC lang).ignore=[]):=rfl
    obtain ⟨C,HCC⟩:∃ C,Hid (locC lang=C):=⟨_,rfl⟩
    rw [HCC.out] at HLC HSC HFN HIG
    obtain ⟨so,HSOR⟩:∃ so,Hid (y.sort=so):=⟨_,rfl⟩
    have HWY:Hid (wsY y=Lib.fields so):=by show _=_; rw [← HSOR.out]; rfl
    have HWB:Hid (∀ b∈so,b.toNat<128):=fun b hb=>(HWS.out b (by rw [HSOR.out]; exact hb)).1
    have hsl:so.length≤100000:=by rw [← HSOR.out]; exact hy.2.1
    have HY2:Hid (wr.cell? ⟨B,2,none⟩=some (.string (bs so))∧B<wr.heap.size):=⟨by rw [← HSOR.out]; exact (sty_cells HYR.out).1.2.2.1,HYR.out.lt⟩
    rw [HWY.out] at HFN
    have HWL:Hid ((Lib.fields so).length≤so.length+1):=by show _≤_; rw [← HWY.out,← HSOR.out]; exact wsY_len he
    have HLEN:Hid ((l.map sorOf).length=l.length):=List.length_map _
    obtain ⟨xs,HXS⟩:∃ xs,Hid (l.map sorOf=xs):=⟨_,rfl⟩
    have HGOOD:Hid (∀ z∈xs,FitKy z.k):=fun z hz=>by
     rw [← HXS.out] at hz
     obtain ⟨t,ht,rfl⟩:=List.mem_map.1 hz
     exact keyOf_fit (HFT.out t ht)
    have HSRT:Hid (srtS (fun a b=>cfW C (Lib.fields so) a.k b.k) xs=(ordL C (Lib.fields so) l).map sorOf):=by
     show _=_
     rw [← HXS.out]; exact srtS_ord _ _ _
    rw [HXS.out] at HGR HLEN
    have hl19:xs.length≤19:=by have:=HLEN.out; omega
    obtain ⟨os,HOS⟩:∃ os,Hid (ordL C (Lib.fields so) l=os):=⟨_,rfl⟩
    have HOF:Hid (∀ z∈os,FitL z):=fun z hz=>by
     rw [← HOS.out] at hz
     exact HFT.out z ((ordL_perm C (Lib.fields so) l).mem_iff.1 hz)
    have hol:os.length≤19:=by rw [← HOS.out,ordL_len]; omega
    rw [HOS.out] at HSRT HFN
    clear HWS HSOR HWY HYR HOS HCC HFT HEN HKR
    go_wp2_with fail
    refine HLC.out.mono ?_
    rintro e w2 ⟨vR,vO,rfl,hcol,⟨hiR,hiO⟩,hk2⟩
    have HIR:=Lib.hid hiR
    have HIO:=Lib.hid hiO
    rw [HIG.out]
    have HCOL:=Lib.hid hcol
    obtain ⟨aR,cR,rfl,lR⟩:=hcol.1.form
    obtain ⟨aO,cO,rfl,lO⟩:=hcol.2.form
    have HKA:=Lib.hid (hk2.trans (kept_alloc w2 (.cells #[.slice aR C.ranks.length cR,.slice aO C.order.length cO,.string (bs [])] 88)))
    have HC2:=Lib.hid (Blk.new w2 88 #[.slice aR C.ranks.length cR,.slice aO C.order.length cO,.string (bs [])])
    have HCOL2:=Lib.hid (HCOL.out.kept (kept_alloc w2 (.cells #[.slice aR C.ranks.length cR,.slice aO C.order.length cO,.string (bs [])] 88)))
    obtain ⟨C2,HCE⟩:∃ C2,Hid (w2.heap.size=C2):=⟨_,rfl⟩
    clear hcol hk2 hiR hiO HLC HCOL
    go_upto_region 13 with fail
    rw [HCE.out] at HC2 ⊢
    generalize w2.alloc _=w3 at *
    clear HCE
    have y2:=(HKA.out.cell (p:=⟨B,2,none⟩) HY2.out.2).trans HY2.out.1
    have yz:B<w3.heap.size:=Nat.lt_of_lt_of_le HY2.out.2 HKA.out.size
    have HFE:=Lib.hid (Tryz.strings_Fields_laid (bs so) w3 (by simp; omega) (fun j b hb=>HWB.out b (List.mem_of_getElem? (by simpa using hb))) (HEW.out.kept HKA.out).asc)
    simp only [bs_data] at HFE
    obtain ⟨ws,HWZ⟩:∃ ws,Hid (Lib.fields so=ws):=⟨_,rfl⟩
    rw [HWZ.out] at HFE HSRT
    have hwl:ws.length≤1000000:=by have h:=HWL.out; rw [HWZ.out] at h; omega
    clear HWZ
    go_wp2_with fail
    refine HFE.out.mono ?_
    rintro e w4 ⟨rfl,rfl⟩
    have e4:(w3.alloc (.cells (List.map (fun l=>Value.string ⟨l.toArray⟩) ws).toArray 9))=w3.alloc (.cells (strCells ws).toArray 9):=rfl
    rw [e4]
    clear e4
    have hkf:=kept_alloc w3 (.cells (strCells ws).toArray 9)
    have HSW:=Lib.hid (strs_fresh w3 ws)
    have HSB:=Lib.hid (Blk.new w3 9 (strCells ws).toArray)
    have HC4:=Lib.hid (HC2.out.kept hkf)
    have HCOL4:=Lib.hid (HCOL2.out.kept hkf)
    have HKF:=Lib.hid (HKA.out.trans hkf)
    generalize w3.alloc (.cells (strCells ws).toArray 9)=w4 at *
    generalize w3.heap.size=S4 at *
    clear hkf HC2 HCOL2 HKA HFE y2 yz
    have hkb:=kept_alloc w4 (.cells #[.slice (some ⟨S4,0,none⟩) ws.length ws.length] 29)
    have HCB:=Lib.hid (Blk.new w4 29 #[.slice (some ⟨S4,0,none⟩) ws.length ws.length])
    have HSW5:=Lib.hid (HSW.out.kept hkb)
    have HSB5:=Lib.hid (HSB.out.kept hkb)
    have HC5:=Lib.hid (HC4.out.kept hkb)
    have HCOL5:=Lib.hid (HCOL4.out.kept hkb)
    have HKG:=Lib.hid (HKF.out.trans hkb)
    obtain ⟨C1,HCE⟩:∃ C1,Hid (w4.heap.size=C1):=⟨_,rfl⟩
    clear hkb HSW HSB HC4 HCOL4 HKF
    go_upto_region 14 with fail
    rw [HCE.out] at HCB ⊢
    generalize w4.alloc _=w5 at *
    clear HCE
    have HG5:=Lib.hid (HGR.out.kept sorK HKG.out)
    obtain ⟨ar,cr,rfl,hcr,hmr⟩:=HGR.out.form
    have hrow:∀ g,(Value.slice ar xs.length cr).ownBlock=some g→w1.heap.size≤g∧g<wr.heap.size:=fun g q=>HGR.out.blk g q
    have n1:=OutG.ne_blk HG5.out HCB.out (by decide)
    have n2:=OutG.ne_blk HG5.out HC5.out (by decide)
    have n3:=OutG.ne_blk HG5.out HSB5.out (by decide)
    have HSO:=Lib.hid (sortsS_any C1 C2 w1.heap.size (fun g=>g<w1.heap.size) (fun a b=>cfW C ws a.k b.k) (fun z=>FitKy z.k) _ xs w5 HG5.out HGOOD.out hl19 (fun w' cs ds p q hon gx gy hx hy=>by
     obtain ⟨vA,vE,vF,rfl,h1⟩:=hx
     obtain ⟨uA,uE,uF,rfl,h2⟩:=hy
     obtain ⟨aA,cA,rfl,-⟩:=h1.1.1.shape
     obtain ⟨aS,cS,rfl,-⟩:=h1.2.1.1.shape
     obtain ⟨aF,cF,rfl,-⟩:=(show ∃ a c,vF=.slice a p.src.fields.length c∧p.src.fields.length≤c by obtain ⟨a,c,e,l,_⟩:=h1.2.2.1; exact ⟨a,c,e,l⟩)
     obtain ⟨bA,dA,rfl,-⟩:=h2.1.1.shape
     obtain ⟨bS,dS,rfl,-⟩:=h2.2.1.1.shape
     obtain ⟨bF,dF,rfl,-⟩:=(show ∃ a c,uF=.slice a q.src.fields.length c∧q.src.fields.length≤c by obtain ⟨a,c,e,l,_⟩:=h2.2.2.1; exact ⟨a,c,e,l⟩)
     exact ciorder1_any C1 C2 (.slice (some ⟨S4,0,none⟩) ws.length ws.length) (.slice aR C.ranks.length cR) (.slice aO C.order.length cO) C ws p q aA aS aF bA bS bF _ _ _ _ _ _ cA cS cF dA dS dF w' (HCB.out.onl hon n1) (HSW5.out.onlS (S:=fun g=>g=S4) (fun _ g q=>by cases q; rfl) hon (fun g _ hs q=>n3 (by rw [← hs]; exact q))) (by rw [HIG.out]; exact HC5.out.onl hon n2)
      ⟨HCOL5.out.1.onlS HIR.out hon (fun g _ hs q=>by have:=(hrow g q).2; omega),HCOL5.out.2.onlS HIO.out hon (fun g _ hs q=>by have:=(hrow g q).2; omega)⟩ HSC.out gx gy hwl))
    unfold SrsS at HSO
    rw [HSRT.out] at HSO
    have hos:os.length=xs.length:=by
     have h1:=congrArg List.length HSRT.out
     rw [srtS_len,List.length_map] at h1
     exact h1.symm
    have HOSX:=Lib.hid hos
    clear n1 n2 n3 hos HSRT HGOOD HCOL5 HC5 HSB5 HSW5 HG5 HIR HIO HSC
    go_wp2_with fail
    refine HSO.out.mono ?_
    rintro e w6 ⟨rfl,ho6,hon6⟩
    have HG6:=Lib.hid ho6
    have HK6:Hid (Kept w w6):=(HKW.out.trans HKG.out).trans' (hon6.below (HKW.out.trans HKG.out).size (fun i q=>by have h1:=(hrow i q).1; have h2:=HK1.out.size; omega))
    have HA6:Hid (∀ g,g<w1.heap.size→True):=fun _ _=>trivial
    clear ho6 hon6 HSO HCB HKG hrow HLEN HXS HGR HY2 HEW HKW
    go_wp2_with fail
    go_loopw [17,61] (fun o i wx=>∃ (k:Nat),k≤os.length∧i=.int .i64 k∧Hid (OutG SrcK 5 (fun g=>w6.heap.size≤g) w6.heap.size 50 wx o (os.take k))∧Hid (Kept w6 wx)) (fun _ i _=>os.length - (intOf i).toNat)
    case atStart=>exact ⟨0,Nat.zero_le _,rfl,OutG.nil _ _ _ _ _ _,Kept.refl _⟩
    case round =>
     obtain ⟨k,hk,rfl,HGR,HKR⟩:=hrel
     have hzr:w6.heap.size≤wr.heap.size:=HKR.out.size
     by_cases hlt:k<xs.length
     ·have hlo:k<os.length:=by have:=HOSX.out; omega
      obtain ⟨x,hx⟩:∃ x,os[k]? = some x:=⟨_,List.getElem?_eq_getElem hlo⟩
      have hft:=HOF.out x (List.mem_of_getElem? hx)
      have HT:Hid (os.take (k+1)=os.take k ++ [x]):=by show _=_; rw [List.take_succ,hx]; rfl
      obtain ⟨us,HUS⟩:∃ us,Hid (os.take k=us):=⟨_,rfl⟩
      have hul:us.length≤19:=by rw [← HUS.out,List.length_take]; omega
      rw [HUS.out] at HGR HT
      obtain ⟨g,cs,rfl,hgb,hgz,-,-,-,hcc,hR⟩:=(HG6.out.kept sorK HKR.out).at_ k (sorOf x) (by rw [List.getElem?_map,hx]; rfl)
      obtain ⟨vA,vE,vF,rfl,hS⟩:=hR
      have d0:wr.cell? ⟨g,k * 9,none⟩=some (.string (bs (authK x))):=by have h:=hcc 0 _ rfl; rw [Nat.add_zero] at h; exact h
      have d1:=hcc 1 _ rfl
      have d2:=hcc 2 _ rfl
      have d3:=hcc 3 _ rfl
      have d4:=hcc 4 _ rfl
      have d5:=hcc 5 _ rfl
      have d6:=hcc 6 _ rfl
      have d7:=hcc 7 _ rfl
      have d8:=hcc 8 _ rfl
      obtain ⟨aA,cA,rfl,lA⟩:=hS.1.1.shape
      obtain ⟨aS,cS,rfl,lS⟩:=hS.2.1.1.shape
      obtain ⟨aF,cF,rfl,lF⟩:=(show ∃ a c,vF=.slice a x.fields.length c∧x.fields.length≤c by obtain ⟨a,c,e,l,_⟩:=hS.2.2.1; exact ⟨a,c,e,l⟩)
      have HCP:=Lib.hid (fun w' (kk:Kept wr w')=>cicopy_any (.slice aA x.author.length cA) (.slice aS x.editor.length cS) (.slice aF x.fields.length cF) x w' (hS.1.1.kept kk) (hS.2.1.1.kept kk) (hS.2.2.1.kept kk) (by have:=hft.1; omega) (by have:=hft.2.1; omega) (by have:=hft.2.2.1; omega))
      unfold CpyS at HCP
      unfold sorOf keyOf at d1 d2 d3 d4 d5
      simp only at d1 d2 d3 d4 d5
      obtain ⟨v1,hv1⟩:∃ v,yearL ((fieldL x.fields kYr).getD [])=v:=⟨_,rfl⟩
      obtain ⟨v2,hv2⟩:∃ v,(fieldL x.fields wTitle).getD []=v:=⟨_,rfl⟩
      obtain ⟨v0,hv0⟩:∃ v,authK x=v:=⟨_,rfl⟩
      rw [hv0] at d0
      rw [hv1] at d1
      rw [hv2] at d2
      clear hv0 hv1 hv2 hcc hS hx hft HUS
      have HKA:=Lib.hid (kept_alloc wr (.cells #[.string (bs v0),.int .i64 v1,.string (bs v2),.string (bs x.key),.string (bs x.key),.string (bs x.type),.slice aA x.author.length cA,.slice aS x.editor.length cS,.slice aF x.fields.length cF] 86))
      go_wp2_with fail
      refine (HCP.out _ HKA.out).mono ?_
      rintro e w7 ⟨uA,uS,uF,rfl,hsl,hk7⟩
      obtain ⟨bA,eA,rfl,-⟩:=hsl.1.1.shape
      obtain ⟨bS,eS,rfl,-⟩:=hsl.2.1.1.shape
      obtain ⟨bF,eF,rfl,-⟩:=(show ∃ a c,uF=.slice a x.fields.length c∧x.fields.length≤c by obtain ⟨a,c,e,l,_⟩:=hsl.2.2.1; exact ⟨a,c,e,l⟩)
      have HK7:=Lib.hid ((HKR.out.trans HKA.out).trans hk7)
      have HG7:=Lib.hid ((HGR.out.kept srcK HKA.out).kept srcK hk7)
      have hka:=kept_alloc w7 (.cells #[.string (bs x.key),.string (bs x.type),.slice bA x.author.length eA,.slice bS x.editor.length eS,.slice bF x.fields.length eF] 50)
      have HROW:=Lib.hid (Blk.new w7 50 #[.string (bs x.key),.string (bs x.type),.slice bA x.author.length eA,.slice bS x.editor.length eS,.slice bF x.fields.length eF])
      have HG8:=Lib.hid (HG7.out.kept srcK hka)
      have HK8:=Lib.hid (HK7.out.trans hka)
      obtain ⟨ao,co,rfl,hco,hmo⟩:=HGR.out.form
      have hzz:wr.heap.size≤(wr.alloc (.cells #[.string (bs v0),.int .i64 v1,.string (bs v2),.string (bs x.key),.string (bs x.key),.string (bs x.type),.slice aA x.author.length cA,.slice aS x.editor.length cS,.slice aF x.fields.length cF] 86)).heap.size:=HKA.out.size
      have HYY:Hid (SrcK (fun g=>w6.heap.size≤g∧(Value.slice ao us.length co).ownBlock≠some g) _ [.string (bs x.key),.string (bs x.type),.slice bA x.author.length eA,.slice bS x.editor.length eS,.slice bF x.fields.length eF] x) :=
       ⟨_,_,_,rfl,hsl.sam (Sam.kept hka) (fun g _ q=>⟨by omega,fun e=>by have:=(HGR.out.blk g e).2; omega⟩)⟩
      have hbz:w6.heap.size≤(w7.alloc (.cells #[.string (bs x.key),.string (bs x.type),.slice bA x.author.length eA,.slice bS x.editor.length eS,.slice bF x.fields.length eF] 50)).heap.size:=Nat.le_trans hzr (Nat.le_trans (Nat.le_trans hzz hk7.size) hka.size)
      clear hsl hk7 hka HCP HKA HGR HKR HG7 HK7 d0 d1 d2 d3 d4 d5 d6 d7 d8 hzz hgz
      go_wp2_with (at_builtin; refine holdC ?_)
      refine Lib.hid ?_
      refine wpList_append_out srcK rfl (.tmp 65) (.tmp 69) 31 rfl i5 _ 104 Tryz.underlying31 hi5 hz50 hz51 hz52 rfl (by omega) (by rfl) HG8.out w7.heap.size _ _ (by rfl) (fun j u hu=>HROW.out.cell j u (by rw [← Array.getElem?_toList]; exact hu)) rfl HYY.out (by unfold maxLen; omega) (by omega) hbz _ rfl ?_
      intro g7 c7' w9 hout7 hgrow7 hat7 hlt7
      have HOUT8:Hid (OutG SrcK 5 (fun g=>w6.heap.size≤g) w6.heap.size 50 w9 (.slice (some ⟨g7,0,none⟩) (us.length+1) c7') (os.take (k+1))):=by rw [HT.out]; exact hout7
      have HK9:Hid (Kept w6 w9):=HK8.out.trans' ((Only.grown hgrow7).below HK8.out.size (fun i q=>(HG8.out.blk i q.symm).1))
      clear hout7 hgrow7 hat7 hlt7 HROW HG8 HYY hbz HK8
      go_wp2_with fail
      go_roundw
      case rel=>exact ⟨k+1,by omega,by go_num,HOUT8.out,HK9.out⟩
      case measure=>simp [intOf]; omega
     ·obtain rfl:k=os.length:=by have:=HOSX.out; omega
      rw [List.take_length] at HGR
      have HF:=Lib.hid (HFN.out _ _ ((HGR.out.mono srcK (fun g _ q=>Nat.le_trans HK6.out.size q)).low HK6.out.size) (HK6.out.trans HKR.out))
      obtain ⟨ao,co,rfl,hco,hmo⟩:=HGR.out.form
      clear HGR HFN
      go_wp2_with fail
      (try go_ret2)
      exact HF.out
end Go.Proofs.YtmcoomlkbgiboaaGreatDoor

/- The suffixes a, b to z, aa and so on, in plain Lean. No condition. -/
set_option linter.all false
namespace Go.Proofs.YtmcoomlkbgiboaaGreatDoor
open Go.RowKit

/-- The letters of number n, the last first. -/
def letR (n:Nat):Bs:=if h:n=0 then [] else UInt8.ofNat (97+(n - 1) % 26) :: letR ((n - 1) / 26)
termination_by n
decreasing_by omega
def letL (n:Nat):Bs:=(letR n).reverse
theorem letR_zero:letR 0=[]:=by rw [letR]; rfl
theorem letR_pos {n:Nat} (h:0<n):letR n=UInt8.ofNat (97+(n - 1) % 26) :: letR ((n - 1) / 26):=by
 rw [letR,dif_neg (by omega)]
theorem let_byte {r:Nat} (h:r<26):(UInt8.ofNat (97+r)).toNat=97+r:=by
 rw [UInt8.toNat_ofNat']; omega
theorem letR_inj:∀ (m n:Nat),letR m=letR n→m=n:=by
 intro m
 induction m using Nat.strongRecOn with
 | _ m ih =>
  intro n h
  rcases Nat.eq_zero_or_pos m with rfl | hm
  ·rcases Nat.eq_zero_or_pos n with rfl | hn
   ·rfl
   ·rw [letR_zero,letR_pos hn] at h; cases h
  ·rcases Nat.eq_zero_or_pos n with rfl | hn
   ·rw [letR_zero,letR_pos hm] at h; cases h
   ·rw [letR_pos hm,letR_pos hn] at h
    obtain ⟨h1,h2⟩:=List.cons.inj h
    have h3:=congrArg UInt8.toNat h1
    rw [let_byte (Nat.mod_lt _ (by decide)),let_byte (Nat.mod_lt _ (by decide))] at h3
    have h4:=ih ((m - 1) / 26) (by omega) _ h2
    omega
theorem letL_inj {m n:Nat} (h:letL m=letL n):m=n:=letR_inj m n (List.reverse_inj.1 h)
theorem letL_ne {n:Nat} (h:0<n):letL n≠[]:=by
 unfold letL
 rw [letR_pos h]; simp
theorem letR_len:∀ n,(letR n).length≤n:=by
 intro n
 induction n using Nat.strongRecOn with
 | _ n ih =>
  rcases Nat.eq_zero_or_pos n with rfl | hn
  ·rw [letR_zero]; exact Nat.le_refl _
  ·rw [letR_pos hn,List.length_cons]
   have:=ih ((n - 1) / 26) (by omega)
   omega
theorem letL_len (n:Nat):(letL n).length≤n:=by unfold letL; rw [List.length_reverse]; exact letR_len n
end Go.Proofs.YtmcoomlkbgiboaaGreatDoor

/- Texts with holes, in plain Lean. No condition. -/
set_option linter.all false
namespace Go.Proofs.YtmcoomlkbgiboaaGreatDoor
open Go.RowKit

/-- Bytes and holes. -/
abbrev Tok:=List (Option UInt8)
/-- The holes filled. -/
def tokS (s:Bs):Tok→Bs
 | []=>[]
 | none :: l=>s ++ tokS s l
 | some b :: l=>b :: tokS s l
theorem tokS_app (s:Bs) (a b:Tok):tokS s (a ++ b)=tokS s a ++ tokS s b:=by
 induction a with
 | nil=>rfl
 | cons x a ih =>
  cases x with
  | none=>show s ++ tokS s (a ++ b)=(s ++ tokS s a) ++ _; rw [ih,List.append_assoc]
  | some c=>show c :: tokS s (a ++ b)=(c :: tokS s a) ++ _; rw [ih]; rfl
/-- Texts that are equal with two letters in the holes have the same holes. -/
theorem tok_two {a b:UInt8} (hab:a≠b):∀ (l1 l2:Tok),tokS [a] l1=tokS [a] l2→tokS [b] l1=tokS [b] l2→l1=l2
 | [],[],_,_=>rfl
 | [],none :: l2,h,_=>by cases h
 | [],some c :: l2,h,_=>by cases h
 | none :: l1,[],h,_=>by cases h
 | some c :: l1,[],h,_=>by cases h
 | none :: l1,none :: l2,h1,h2=>by
  rw [tok_two hab l1 l2 (List.cons.inj h1).2 (List.cons.inj h2).2]
 | none :: l1,some c :: l2,h1,h2=>by
  have e1:=(List.cons.inj (show a :: tokS [a] l1=c :: tokS [a] l2 from h1)).1
  have e2:=(List.cons.inj (show b :: tokS [b] l1=c :: tokS [b] l2 from h2)).1
  exact absurd (e1.trans e2.symm) hab
 | some c :: l1,none :: l2,h1,h2=>by
  have e1:=(List.cons.inj (show c :: tokS [a] l1=a :: tokS [a] l2 from h1)).1
  have e2:=(List.cons.inj (show c :: tokS [b] l1=b :: tokS [b] l2 from h2)).1
  exact absurd (e1.symm.trans e2) hab
 | some c :: l1,some d :: l2,h1,h2=>by
  have e1:=List.cons.inj (show c :: tokS [a] l1=d :: tokS [a] l2 from h1)
  have e2:=List.cons.inj (show c :: tokS [b] l1=d :: tokS [b] l2 from h2)
  rw [tok_two hab l1 l2 e1.2 e2.2,e1.1]
theorem tok_len (s:Bs) (l:Tok):(tokS s l).length=(l.filter Option.isSome).length+(l.filter Option.isNone).length * s.length:=by
 induction l with
 | nil=>simp [tokS]
 | cons x l ih =>
  cases x with
  | none =>
   show (s ++ tokS s l).length=_
   rw [List.length_append,ih,List.filter_cons_of_neg (by simp),List.filter_cons_of_pos (by rfl),List.length_cons,Nat.add_mul]; omega
  | some c =>
   show (tokS s l).length+1=_
   rw [ih,List.filter_cons_of_pos (by rfl),List.filter_cons_of_neg (by simp),List.length_cons]; omega
theorem tok_same_len {s t:Bs} (h:s.length=t.length):∀ l:Tok,none∈l→tokS s l=tokS t l→s=t
 | [],hn,_=>(List.not_mem_nil hn).elim
 | none :: l,_,q=>(List.append_inj q h).1
 | some c :: l,hn,q=>by
  rcases List.mem_cons.1 hn with r | r
  ·cases r
  ·exact tok_same_len h l r (List.cons.inj q).2
theorem tokS_some (s l:Bs):tokS s (l.map some)=l:=by
 induction l with
 | nil=>rfl
 | cons b l ih=>show b :: tokS s (l.map some)=_; rw [ih]
theorem tokS_flat {α:Type} (s:Bs) (l:List α) (g:α→Tok):tokS s (l.flatMap g)=l.flatMap fun p=>tokS s (g p):=by
 induction l with
 | nil=>rfl
 | cons x l ih=>rw [List.flatMap_cons,List.flatMap_cons,tokS_app,ih]
theorem tokS_hole (s:Bs):tokS s [none]=s:=by show s ++ []=s; rw [List.append_nil]
/-- With a hole, other fillings are other texts. -/
theorem tok_inj {s t:Bs} {l:Tok} (hn:none∈l) (h:tokS s l=tokS t l):s=t:=by
 have h1:=congrArg List.length h
 rw [tok_len,tok_len] at h1
 have hp:0<(l.filter Option.isNone).length:=List.length_pos_of_mem (List.mem_filter.2 ⟨hn,rfl⟩)
 have h2:(l.filter Option.isNone).length * s.length=(l.filter Option.isNone).length * t.length:=by omega
 exact tok_same_len (Nat.eq_of_mul_eq_mul_left hp h2) l hn h
end Go.Proofs.YtmcoomlkbgiboaaGreatDoor
