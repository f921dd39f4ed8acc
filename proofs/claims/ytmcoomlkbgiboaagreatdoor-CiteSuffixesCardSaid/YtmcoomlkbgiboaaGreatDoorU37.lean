/- cite.Suffixes$1: how a source is cited. Conditions: lengths, the listed variables. -/
import Derived.Test.YtmcoomlkbgiboaaGreatDoorU36
import Derived.Test.YtmcoomlkbgiboaaGreatDoorU32
import Derived.Test.YtmcoomlkbgiboaaGreatDoorU22
import Derived.Test.YtmcoomlkbgiboaaGreatDoorU23
import Derived.Test.YtmcoomlkbgiboaaGreatDoorU26
import Derived.Test.YtmcoomlkbgiboaaGreatDoorU30
import Derived.Test.YtmcoomlkbgiboaaGreatDoorU31
set_option linter.all false
set_option maxRecDepth 100000
set_option maxHeartbeats 6400000
namespace Go.Proofs.YtmcoomlkbgiboaaGreatDoor
open Go.RowKit
theorem FitL.fitV {s:SrcT} (h:FitL s) (y:StyT) (hy : -9223372036854775808<=y.most/\y.most<=9223372036854775807) (lang suf:Bs) (hs:suf.length<=1000) (n:Int) (hn : -9223372036854775808<=n/\n<=9223372036854775807):FitV (zkX s y lang suf n):=by
 obtain ⟨h1,h2,h3,h4,h5,h6⟩:=h;have h7:=zo7 h5 kYr;have hq:∀ q∈s.author ++ s.editor,zcQ q<=10000:=fun q hq=>by
  have:=h6 q hq;unfold zcQ;omega
 refine ⟨⟨?_,?_,fun q hx=>hq q (List.mem_append_left _ hx),fun q hx=>hq q (List.mem_append_right _ hx),hy,?_,?_,hn⟩,?_,?_,?_,fun p hp=>?_⟩
 ·show s.author.length<=_;omega
 ·show s.editor.length<=_;omega
 ·show s.fields.length<=_;omega
 ·show ((za5 s.fields kYr).getD []).length<=_;omega
 ·show s.key.length<=_;omega
 ·show s.type.length<=_;omega
 ·show suf.length<=_;omega
 ·have:=h5 p hp;omega
theorem zmG (Y L:Nat) (vA vE vF vY:Value) (s:SrcT) (y:StyT) (lang suf:Bs) (w:World) (hen:EnvC w) (hb:Blk w Y 33 (zaD vY y)) (hl:Blk w L 9 #[.string (bs lang)]) (hY:vY.oneCell'=true) (hyc:y.cite.length<=100000) (hym : -9223372036854775808<=y.most/\y.most<=9223372036854775807)
  (hA:Perss w vA s.author) (hE:Perss w vE s.editor) (hF:Prs w vF s.fields) (hft:FitL s) (hs:suf.length<=1000) :
  Calls Tryz.prog 49 #[zhB s.key s.type vA vE vF,.string (bs suf),.pointer (some ⟨Y,0,none⟩),.pointer (some ⟨L,0,none⟩)] w fun e w'=>e=.returned (.string (bs (zhG s y lang suf)))/\Kept w w':=by
 obtain ⟨aA,cA,rfl,lA⟩:=hA.shape;obtain ⟨aE,cE,rfl,lE⟩:=hE.shape;obtain ⟨aF,cF,rfl,lF⟩:=(show ∃ a c,vF=.slice a s.fields.length c/\s.fields.length<=c by obtain ⟨a,c,e,l,_⟩:=hF;exact ⟨a,c,e,l⟩);have HK0:=Hd (zaA w (.cells #[.string (bs s.key),.string (bs s.type),.slice aA s.author.length cA,.slice aE s.editor.length cE,.slice aF s.fields.length cF] 50));have HBX:=Hd (Blk.new w 50 #[.string (bs s.key),.string (bs s.type),.slice aA s.author.length cA,.slice aE s.editor.length cE,.slice aF s.fields.length cF]);have HFL:=Hd (fun w' (k:Kept w w')=>zq0 (zkX s y lang suf 0) y.cite (.slice aA s.author.length cA) (.slice aE s.editor.length cE) (.slice aF s.fields.length cF) vY y w' rfl hY (hen.gnd.kept k) (zeO hen.tab k) hyc (hft.fitV y hym lang suf hs 0 (by omega)) (hA.kept k) (hE.kept k) (hF.kept k));have HST:=Hd (fun w' (k:Kept w w')=>zcC (hb.kept k));have HLG:=Hd (fun w' (k:Kept w w')=>hl.kept k);unfold zdU zaD at HFL;simp only[zkX] at HFL;have HCS:Hid (zdD (zkX s y lang suf 0) y.cite=zhG s y lang suf):=rfl;unfold zkX at HCS;rw[HCS.out] at HFL;generalize zhG s y lang suf=R at *;generalize zcW y.cite=E at *;clear hA hE hF hb hl hft HCS hen;go_enter Tryz.func49,Tryz.ntmps49;go_upto_region 1 with fail;obtain ⟨B,HBB⟩:∃ B,Hid (w.heap.size=B):=⟨_,rfl⟩;rw[HBB.out] at HBX ⊢;generalize w.alloc _=w0 at *;obtain ⟨⟨b0,b1,b2,b3,b4,b5,b6,b7,b8,b9⟩,bz⟩:=HST.out w0 HK0.out;have l0:=(HLG.out w0 HK0.out).cell 0 _ rfl;have lz:=(HLG.out w0 HK0.out).lt;have x0:=HBX.out.cell 0 _ rfl;have x1:=HBX.out.cell 1 _ rfl;have x2:=HBX.out.cell 2 _ rfl;have x3:=HBX.out.cell 3 _ rfl;have x4:=HBX.out.cell 4 _ rfl;have xz:=HBX.out.lt;have HFX:=Hd (HFL.out w0 HK0.out);clear HFL HST HLG HBB;go_wp2_with fail;refine HFX.out.mono ?_;rintro e w2 ⟨rfl,hk2⟩;have HK2:=Hd (HK0.out.trans hk2);clear hk2 HFX x0 x1 x2 x3 x4 xz b0 b1 b2 b3 b4 b5 b6 b7 b8 b9 bz l0 lz HBX;go_wp2_with fail
 (try go_ret)
 exact ⟨rfl,HK2.out⟩
theorem Lns.at_ {S:Nat->Prop} {n:Nat} {w:World} {a:Option Addr} {m c:Nat} {xs:List Inl} (h:Lns S (n+1) w (.slice a m c) xs) (j:Nat) (x:Inl) (hx:xs[j]? = some x) :
  ∃ g o vC vP vA vT vK,a=some ⟨g,o,none⟩/\g<w.heap.size/\S g/\m=xs.length/\xs.length<=c /\
   (w.cell? ⟨g,o+j * 10,none⟩=some (.int .i64 x.kind)/\w.cell? ⟨g,o+j * 10+1,none⟩=some (.string (bs x.text))/\w.cell? ⟨g,o+j * 10+2,none⟩=some (.string (bs x.dest))/\w.cell? ⟨g,o+j * 10+3,none⟩=some (.string (bs x.title))/\w.cell? ⟨g,o+j * 10+4,none⟩=some (.string (bs x.id))/\w.cell? ⟨g,o+j * 10+5,none⟩=some vC/\w.cell? ⟨g,o+j * 10+6,none⟩=some vP/\w.cell? ⟨g,o+j * 10+7,none⟩=some vA/\w.cell? ⟨g,o+j * 10+8,none⟩=some vT/\w.cell? ⟨g,o+j * 10+9,none⟩=some vK) /\
   (∀ i u,(zEk x vC vP vA vT vK)[i]? = some u->w.cell? ⟨g,o+j * 10+i,none⟩=some u)/\(Strs w vC x.cls/\InB S vC x.cls.length)/\(Prs w vP x.prs/\InB S vP x.prs.length)/\(Strs w vA x.args/\InB S vA x.args.length)/\Cits S w vT x.cits/\Lns S n w vK x.kids:=by
 obtain ⟨g,o,cs,ha,hg,hS,hl,hc,hR,hm,hle⟩:=RowR.at_ (show RowR S 10 _ _ _ _ from h) j x hx;obtain ⟨vC,vP,vA,vT,vK,rfl,r1,r2,r3,r4,r5⟩:=hR;exact ⟨g,o,vC,vP,vA,vT,vK,ha,hg,hS,hm,hle,⟨by simpa using hc 0 _ rfl,hc 1 _ rfl,hc 2 _ rfl,hc 3 _ rfl,hc 4 _ rfl,hc 5 _ rfl,hc 6 _ rfl,hc 7 _ rfl,hc 8 _ rfl,hc 9 _ rfl⟩,hc,r1,r2,r3,r4,r5⟩
theorem Bls.at_ {S:Nat->Prop} {m0 n:Nat} {w:World} {a:Option Addr} {m c:Nat} {xs:List Blo} (h:Bls S m0 (n+1) w (.slice a m c) xs) (j:Nat) (x:Blo) (hx:xs[j]? = some x) :
  ∃ g o vC vP vL vK,a=some ⟨g,o,none⟩/\g<w.heap.size/\S g/\m=xs.length/\xs.length<=c /\
   (w.cell? ⟨g,o+j * 11,none⟩=some (.int .i64 x.kind)/\w.cell? ⟨g,o+j * 11+1,none⟩=some (.int .i64 x.level)/\w.cell? ⟨g,o+j * 11+2,none⟩=some (.string (bs x.info))/\w.cell? ⟨g,o+j * 11+3,none⟩=some (.string (bs x.text))/\w.cell? ⟨g,o+j * 11+4,none⟩=some (.string (bs x.dest))/\w.cell? ⟨g,o+j * 11+5,none⟩=some (.string (bs x.title))/\w.cell? ⟨g,o+j * 11+6,none⟩=some (.string (bs x.id))/\w.cell? ⟨g,o+j * 11+7,none⟩=some vC/\w.cell? ⟨g,o+j * 11+8,none⟩=some vP/\w.cell? ⟨g,o+j * 11+9,none⟩=some vL/\w.cell? ⟨g,o+j * 11+10,none⟩=some vK) /\
   (∀ i u,(zFf x vC vP vL vK)[i]? = some u->w.cell? ⟨g,o+j * 11+i,none⟩=some u)/\(Strs w vC x.cls/\InB S vC x.cls.length)/\(Prs w vP x.prs/\InB S vP x.prs.length)/\Lns S m0 w vL x.line/\Bls S m0 n w vK x.kids:=by
 obtain ⟨g,o,cs,ha,hg,hS,hl,hc,hR,hm,hle⟩:=RowR.at_ (show RowR S 11 _ _ _ _ from h) j x hx;obtain ⟨vC,vP,vL,vK,rfl,r1,r2,r3,r4⟩:=hR;exact ⟨g,o,vC,vP,vL,vK,ha,hg,hS,hm,hle,⟨by simpa using hc 0 _ rfl,hc 1 _ rfl,hc 2 _ rfl,hc 3 _ rfl,hc 4 _ rfl,hc 5 _ rfl,hc 6 _ rfl,hc 7 _ rfl,hc 8 _ rfl,hc 9 _ rfl,hc 10 _ rfl⟩,hc,r1,r2,r3,r4⟩
theorem Lns.no {S:Nat->Prop} {w:World} {v:Value} {xs:List Inl} (h:Lns S 0 w v xs):xs=[]:=h.1
theorem Bls.no {S:Nat->Prop} {m:Nat} {w:World} {v:Value} {xs:List Blo} (h:Bls S m 0 w v xs):xs=[]:=h.1
mutual
def zE7:Inl->Prop
 | .mk _ text dest title id cls prs args cits kids=>(text.length<=1000000/\dest.length<=1000000/\title.length<=1000000/\id.length<=1000000/\cls.length<=1000000/\prs.length<=1000000/\args.length<=1000000/\cits.length<=1000000/\kids.length<=1000000)/\zAo kids
def zAo:List Inl->Prop
 | []=>True
 | x :: xs=>zE7 x/\zAo xs
end
mutual
def zE8:Blo->Prop
 | .mk _ _ info text dest title id cls prs line kids=>(info.length<=1000000/\text.length<=1000000/\dest.length<=1000000/\title.length<=1000000/\id.length<=1000000/\cls.length<=1000000/\prs.length<=1000000/\line.length<=1000000/\kids.length<=1000000)/\zAo line/\zCm kids
def zCm:List Blo->Prop
 | []=>True
 | x :: xs=>zE8 x/\zCm xs
end
theorem zmH {xs:List Inl} (h:zAo xs):∀ x∈xs,zE7 x:=by
 induction xs with
 | nil=>intro x hx;cases hx
 | cons y ys ih =>
  intro x hx;rcases List.mem_cons.1 hx with rfl|hx
  ·exact h.1
  ·exact ih h.2 x hx
theorem zD1 {xs:List Blo} (h:zCm xs):∀ x∈xs,zE8 x:=by
 induction xs with
 | nil=>intro x hx;cases hx
 | cons y ys ih =>
  intro x hx;rcases List.mem_cons.1 hx with rfl|hx
  ·exact h.1
  ·exact ih h.2 x hx
theorem zE7.fit {x:Inl} (h:zE7 x):(x.text.length<=1000000/\x.dest.length<=1000000/\x.title.length<=1000000/\x.id.length<=1000000/\x.cls.length<=1000000/\x.prs.length<=1000000/\x.args.length<=1000000/\x.cits.length<=1000000/\x.kids.length<=1000000)/\zAo x.kids:=by cases x;exact h
theorem zE8.fit {x:Blo} (h:zE8 x):(x.info.length<=1000000/\x.text.length<=1000000/\x.dest.length<=1000000/\x.title.length<=1000000/\x.id.length<=1000000/\x.cls.length<=1000000/\x.prs.length<=1000000/\x.line.length<=1000000/\x.kids.length<=1000000)/\zAo x.line/\zCm x.kids:=by cases x;exact h
theorem zhR {xs:List Inl} {k:Nat} {x:Inl} (h:xs[k]? = some x):zaX (xs.take (k+1))=zaX (xs.take k) ++ zgK x:=by
 rw[zgM h,zfE];show _ ++ (zgK x ++ [])=_;rw[List.append_nil]
theorem zAp (xs:List Inl) (k:Nat):(zaX (xs.take k)).length<=(zaX xs).length:=by
 conv=>rhs;rw[<- List.take_append_drop k xs]
 rw[zfE,List.length_append];omega
theorem zwH {xs:List Inl} {k:Nat} {x:Inl} (h:xs[k]? = some x):zb6 (xs.take (k+1))=zb6 (xs.take k) ++ zvW x:=by
 rw[zgM h,zrA];show _ ++ (zvW x ++ [])=_;rw[List.append_nil]
theorem zCn (xs:List Inl) (k:Nat):(zb6 (xs.take k)).length<=(zb6 xs).length:=by
 conv=>rhs;rw[<- List.take_append_drop k xs]
 rw[zrA,List.length_append];omega
theorem zwI {xs:List Blo} {k:Nat} {x:Blo} (h:xs[k]? = some x):zbW (xs.take (k+1))=zbW (xs.take k) ++ zvX x:=by
 rw[zgM h,zrB];show _ ++ (zvX x ++ [])=_;rw[List.append_nil]
theorem zCo (xs:List Blo) (k:Nat):(zbW (xs.take k)).length<=(zbW xs).length:=by
 conv=>rhs;rw[<- List.take_append_drop k xs]
 rw[zrB,List.length_append];omega
def txB (s:Bs):Bs:=if s=[] then [63] else s
def txC (s:Bs):List Value:=[.int .i64 1,.string (bs (txB s)),.string (bs []),.string (bs []),.string (bs []),.slice none 0 0,.slice none 0 0,.slice none 0 0,.slice none 0 0,.slice none 0 0]
def txI (s:Bs):Inl:=.mk 1 (txB s) [] [] [] [] [] [] [] []
theorem zwJ (s:Bs) (w:World):Calls Tryz.prog 174 #[.string (bs s)] w fun e w'=>e=.returned (.agg (txC s).toArray)/\Kept w w':=by
 skip
 unfold txC txB;by_cases h:s=[]
 ·subst h;rw[if_pos rfl];go_enter Tryz.func174,Tryz.ntmps174;go_wp2_with fail;have hb:=Blk.new w 71 #[.int .i64 1,.string (bs [63]),.string (bs []),.string (bs []),.string (bs []),.slice none 0 0,.slice none 0 0,.slice none 0 0,.slice none 0 0,.slice none 0 0];have hk:=zaA w (.cells #[.int .i64 1,.string (bs [63]),.string (bs []),.string (bs []),.string (bs []),.slice none 0 0,.slice none 0 0,.slice none 0 0,.slice none 0 0,.slice none 0 0] 71);generalize w.alloc _=w1 at *;have r0:=hb.cell 0 _ rfl;have r1:=hb.cell 1 _ rfl;have r2:=hb.cell 2 _ rfl;have r3:=hb.cell 3 _ rfl;have r4:=hb.cell 4 _ rfl;have r5:=hb.cell 5 _ rfl;have r6:=hb.cell 6 _ rfl;have r7:=hb.cell 7 _ rfl;have r8:=hb.cell 8 _ rfl;have r9:=hb.cell 9 _ rfl;have rz:=hb.lt;refine bodyPost_ret (v:=.agg #[.int .i64 1,.string (bs [63]),.string (bs []),.string (bs []),.string (bs []),.slice none 0 0,.slice none 0 0,.slice none 0 0,.slice none 0 0,.slice none 0 0]) ?_ rfl ⟨rfl,hk⟩;simp [results,Tryz.results174,go_sem,r0,r1,r2,r3,r4,r5,r6,r7,r8,r9,rz]
 ·have hb0:(s == ([]:Bs))=false:=(by rw[beq_eq_false_iff_ne];exact h);have hbe:s.isEmpty=false:=(by rw[List.isEmpty_eq_false_iff];exact h);rw[if_neg h];go_enter Tryz.func174,Tryz.ntmps174;go_wp2_with fail;have hb:=Blk.new w 71 #[.int .i64 1,.string (bs s),.string (bs []),.string (bs []),.string (bs []),.slice none 0 0,.slice none 0 0,.slice none 0 0,.slice none 0 0,.slice none 0 0];have hk:=zaA w (.cells #[.int .i64 1,.string (bs s),.string (bs []),.string (bs []),.string (bs []),.slice none 0 0,.slice none 0 0,.slice none 0 0,.slice none 0 0,.slice none 0 0] 71);generalize w.alloc _=w1 at *;have r0:=hb.cell 0 _ rfl;have r1:=hb.cell 1 _ rfl;have r2:=hb.cell 2 _ rfl;have r3:=hb.cell 3 _ rfl;have r4:=hb.cell 4 _ rfl;have r5:=hb.cell 5 _ rfl;have r6:=hb.cell 6 _ rfl;have r7:=hb.cell 7 _ rfl;have r8:=hb.cell 8 _ rfl;have r9:=hb.cell 9 _ rfl;have rz:=hb.lt;refine bodyPost_ret (v:=.agg #[.int .i64 1,.string (bs s),.string (bs []),.string (bs []),.string (bs []),.slice none 0 0,.slice none 0 0,.slice none 0 0,.slice none 0 0,.slice none 0 0]) ?_ rfl ⟨rfl,hk⟩;simp [results,Tryz.results174,go_sem,r0,r1,r2,r3,r4,r5,r6,r7,r8,r9,rz]
def flC (vY:Value) (y:StyT) (lang:Bs) (vE:Value) (M:Nat):Array Value:=#[.string (bs y.name),.bool y.numeric,.string (bs y.sort),.string (bs y.cite),.string (bs y.bare),.string (bs y.between),.string (bs y.begin_),.string (bs y.end_),.int .i64 y.most,vY,.string (bs lang),vE,.map (some M)]
abbrev enV (s:SrcT) (suf:Bs) (n:Int) (vA vE vF:Value):Value:=.agg #[.string (bs s.key),.string (bs s.type),vA,vE,vF,.string (bs suf),.int .i64 n]
theorem zCp (F M:Nat) (vY vEn vA vE vF:Value) (s:SrcT) (y:StyT) (lang suf t:Bs) (n:Int) (w:World) (hen:EnvC w) (hf:Blk w F 136 (flC vY y lang vEn M)) (hY:vY.oneCell'=true) (ht:t.length<=100000) (hym : -9223372036854775808<=y.most/\y.most<=9223372036854775807) (hn : -9223372036854775808<=n/\n<=9223372036854775807)
  (hA:Perss w vA s.author) (hE:Perss w vE s.editor) (hF:Prs w vF s.fields) (hft:FitL s) (hs:suf.length<=1000) :
  Calls Tryz.prog 175 #[.pointer (some ⟨F,0,none⟩),.string (bs t),enV s suf n vA vE vF] w fun e w'=>e=.returned (.string (bs (zdD (zkX s y lang suf n) t)))/\Kept w w':=by
 obtain ⟨aA,cA,rfl,lA⟩:=hA.shape;obtain ⟨aE,cE,rfl,lE⟩:=hE.shape;obtain ⟨aF,cF,rfl,lF⟩:=(show ∃ a c,vF=.slice a s.fields.length c/\s.fields.length<=c by obtain ⟨a,c,e,l,_⟩:=hF;exact ⟨a,c,e,l⟩);have HK0:=Hd (zaA w (.cells #[.string (bs s.key),.string (bs s.type),.slice aA s.author.length cA,.slice aE s.editor.length cE,.slice aF s.fields.length cF,.string (bs suf),.int .i64 n] 138));have HX0:=Hd (Blk.new w 138 #[.string (bs s.key),.string (bs s.type),.slice aA s.author.length cA,.slice aE s.editor.length cE,.slice aF s.fields.length cF,.string (bs suf),.int .i64 n]);have HFL:=Hd (fun w' (k:Kept w w')=>zq0 (zkX s y lang suf n) t (.slice aA s.author.length cA) (.slice aE s.editor.length cE) (.slice aF s.fields.length cF) vY y w' rfl hY (hen.gnd.kept k) (zeO hen.tab k) ht (hft.fitV y hym lang suf hs n hn) (hA.kept k) (hE.kept k) (hF.kept k));have HFK:=Hd (fun w' (k:Kept w w')=>hf.kept k);unfold zdU zaD at HFL;simp only[zkX] at HFL;unfold flC at HFK;have HCS:Hid (zdD (zkX s y lang suf n) t=zdD ⟨s.key,s.type,s.author,s.editor,s.fields,lang,suf,n,y.most⟩ t):=rfl;rw[HCS.out];generalize zdD _ t=R at *;generalize zcW t=E at *;clear hA hE hF hf hft HCS hen hY;go_enter Tryz.func175,Tryz.ntmps175;go_upto_region 1 with fail;obtain ⟨B,HBB⟩:∃ B,Hid (w.heap.size=B):=⟨_,rfl⟩;rw[HBB.out] at HX0 ⊢;generalize w.alloc _=w0 at *;have HC:Hid (∀ w',Kept w0 w'->((w'.cell? ⟨B,0,none⟩=some (.string (bs s.key))/\w'.cell? ⟨B,1,none⟩=some (.string (bs s.type))/\w'.cell? ⟨B,2,none⟩=some (.slice aA s.author.length cA)/\w'.cell? ⟨B,3,none⟩=some (.slice aE s.editor.length cE)/\w'.cell? ⟨B,4,none⟩=some (.slice aF s.fields.length cF)/\w'.cell? ⟨B,5,none⟩=some (.string (bs suf))/\w'.cell? ⟨B,6,none⟩=some (.int .i64 n)) /\
   (w'.cell? ⟨F,0,none⟩=some (.string (bs y.name))/\w'.cell? ⟨F,1,none⟩=some (.bool y.numeric)/\w'.cell? ⟨F,2,none⟩=some (.string (bs y.sort))/\w'.cell? ⟨F,3,none⟩=some (.string (bs y.cite))/\w'.cell? ⟨F,4,none⟩=some (.string (bs y.bare))/\w'.cell? ⟨F,5,none⟩=some (.string (bs y.between))/\w'.cell? ⟨F,6,none⟩=some (.string (bs y.begin_))/\w'.cell? ⟨F,7,none⟩=some (.string (bs y.end_))/\w'.cell? ⟨F,8,none⟩=some (.int .i64 y.most)/\w'.cell? ⟨F,9,none⟩=some vY/\w'.cell? ⟨F,10,none⟩=some (.string (bs lang)))/\(B<w'.heap.size/\F<w'.heap.size)/\Kept w0 w')):=fun w' k =>
  have h1:=HX0.out.kept k;have h2:=HFK.out w' (HK0.out.trans k)
  ⟨⟨h1.cell 0 _ rfl,h1.cell 1 _ rfl,h1.cell 2 _ rfl,h1.cell 3 _ rfl,h1.cell 4 _ rfl,h1.cell 5 _ rfl,h1.cell 6 _ rfl⟩,⟨h2.cell 0 _ rfl,h2.cell 1 _ rfl,h2.cell 2 _ rfl,h2.cell 3 _ rfl,h2.cell 4 _ rfl,h2.cell 5 _ rfl,h2.cell 6 _ rfl,h2.cell 7 _ rfl,h2.cell 8 _ rfl,h2.cell 9 _ rfl,h2.cell 10 _ rfl⟩,⟨h1.lt,h2.lt⟩,k⟩
 have hkd:Kept w0 w0.drew:=zaB w0 1;obtain ⟨⟨t0,t1,t2,t3,t4,t5,t6⟩,⟨u0,u1,u2,u3,u4,u5,u6,u7,u8,u9,u10⟩,⟨z1,z2⟩,-⟩:=HC.out w0 (Kept.refl _);clear HX0 HFK HBB
 go_region_held3 (fun w'=>(w'.cell? ⟨B,0,none⟩=some (.string (bs s.key))/\w'.cell? ⟨B,1,none⟩=some (.string (bs s.type))/\w'.cell? ⟨B,2,none⟩=some (.slice aA s.author.length cA)/\w'.cell? ⟨B,3,none⟩=some (.slice aE s.editor.length cE)/\w'.cell? ⟨B,4,none⟩=some (.slice aF s.fields.length cF)/\w'.cell? ⟨B,5,none⟩=some (.string (bs suf))/\w'.cell? ⟨B,6,none⟩=some (.int .i64 n)) /\
   (w'.cell? ⟨F,0,none⟩=some (.string (bs y.name))/\w'.cell? ⟨F,1,none⟩=some (.bool y.numeric)/\w'.cell? ⟨F,2,none⟩=some (.string (bs y.sort))/\w'.cell? ⟨F,3,none⟩=some (.string (bs y.cite))/\w'.cell? ⟨F,4,none⟩=some (.string (bs y.bare))/\w'.cell? ⟨F,5,none⟩=some (.string (bs y.between))/\w'.cell? ⟨F,6,none⟩=some (.string (bs y.begin_))/\w'.cell? ⟨F,7,none⟩=some (.string (bs y.end_))/\w'.cell? ⟨F,8,none⟩=some (.int .i64 y.most)/\w'.cell? ⟨F,9,none⟩=some vY/\w'.cell? ⟨F,10,none⟩=some (.string (bs lang)))/\(B<w'.heap.size/\F<w'.heap.size)/\Kept w0 w')
  ((refine HC.out _ ?_;assumption))
  (first
   | (go_at_call 23;refine (HFL.out _ (HK0.out.trans hkd)).mono ?_;rintro e w3 ⟨rfl,hk3⟩;have k1:Kept w w3:=(HK0.out.trans hkd).trans hk3;have hkz:Kept w0 w3:=hkd.trans hk3;clear hk3))
 all_goals
  go_wp2_with fail
  (try go_ret)
  exact ⟨rfl,k1⟩
theorem Tryz.sizeIn1:(Tryz.prog.info? 71).map (·.size)=some 10:=by kernel_rfl
def zEJ:Array Value:=#[.int .i64 0,.string (bs []),.string (bs []),.string (bs []),.string (bs []),.slice none 0 0,.slice none 0 0,.slice none 0 0,.slice none 0 0,.slice none 0 0]
def zhS (vP:Value) (F R:Nat) (op cl bt jn x1 x2:Bs) (n0:Nat):Nat->(Nat->Value)->World->Prop
 | 0,V,_=>V 0=.pointer (some ⟨F,0,none⟩)
 | 1,V,_=>V 1=.pointer (some ⟨F,0,none⟩)
 | 2,V,_=>V 2=.pointer (some ⟨F,0,none⟩)
 | 3,V,_=>V 3=.pointer (some ⟨F,6,none⟩)
 | 4,V,_=>V 4=.string (bs op)
 | 5,V,_=>V 5=vP
 | 6,V,_=>V 6=.pointer (some ⟨F,0,none⟩)
 | 7,V,_=>V 7=.pointer (some ⟨F,0,none⟩)
 | 8,V,_=>V 8=.pointer (some ⟨F,0,none⟩)
 | 9,V,_=>V 9=.pointer (some ⟨F,5,none⟩)
 | 10,V,_=>V 10=.string (bs bt)
 | 11,V,_=>V 11=.string (bs jn)
 | 12,V,_=>V 12=.string (bs x1)
 | 13,V,_=>V 13=.pointer (some ⟨F,0,none⟩)
 | 14,V,_=>V 14=.pointer (some ⟨F,0,none⟩)
 | 15,V,_=>V 15=.pointer (some ⟨F,0,none⟩)
 | 16,V,_=>V 16=.pointer (some ⟨F,7,none⟩)
 | 17,V,_=>V 17=.string (bs cl)
 | 18,V,_=>V 18=.string (bs x2)
 | 19,V,_=>V 19=.agg (txC x2).toArray
 | _,_,_=>True
theorem zAq {ops:Array Oper} {id:Nat} {a:Act} {wr:World} {Q:Exit->Act->World->Prop} (vP:Value) (F R:Nat) (op cl bt jn x1 x2:Bs)
  (hc:zzZ ops 21 20 #[[0,1,2,3,4,5,6,7,8,9,10,11,12,13,14,15,16,17,18,19]] #[[],[0],[1],[2],[3],[],[],[6],[7],[8],[9],[5,10],[4,11],[],[13],[14],[15],[16],[12,17],[18],[19]] 84=true)
  (p0:OpAt ops 0 (.move (.tmp 0)) (some 64))
  (p1:OpAt ops 1 (.nilCheck (.tmp 64)) (some 65))
  (p2:OpAt ops 2 (.fieldAddr 136 (.tmp 65) 0) (some 66))
  (p3:OpAt ops 3 (.fieldAddr 33 (.tmp 66) 6) (some 67))
  (p4:OpAt ops 4 (.load 9 (.tmp 67)) (some 68))
  (p5:OpAt ops 5 (.move (.tmp 5)) (some 69))
  (p6:OpAt ops 6 (.move (.tmp 0)) (some 70))
  (p7:OpAt ops 7 (.nilCheck (.tmp 70)) (some 71))
  (p8:OpAt ops 8 (.fieldAddr 136 (.tmp 71) 0) (some 72))
  (p9:OpAt ops 9 (.fieldAddr 33 (.tmp 72) 5) (some 73))
  (p10:OpAt ops 10 (.load 9 (.tmp 73)) (some 74))
  (p11:OpAt ops 11 (.call { callee:=.value (.func 88),args:=#[.tmp 69,.tmp 74],argTypes:=#[29,9] }) (some 75))
  (p12:OpAt ops 12 (.binOp .add 9 (.tmp 68) (.tmp 75) 9) (some 76))
  (p13:OpAt ops 13 (.move (.tmp 0)) (some 77))
  (p14:OpAt ops 14 (.nilCheck (.tmp 77)) (some 78))
  (p15:OpAt ops 15 (.fieldAddr 136 (.tmp 78) 0) (some 79))
  (p16:OpAt ops 16 (.fieldAddr 33 (.tmp 79) 7) (some 80))
  (p17:OpAt ops 17 (.load 9 (.tmp 80)) (some 81))
  (p18:OpAt ops 18 (.binOp .add 9 (.tmp 76) (.tmp 81) 9) (some 82))
  (p19:OpAt ops 19 (.call { callee:=.value (.func 174),args:=#[.tmp 82],argTypes:=#[9] }) (some 83))
  (p20:OpAt ops 20 (.store 71 (.tmp 4) (.tmp 83)) none)
  (hz:84<=a.tmps.size) (h0:a.eval (.tmp 0)=.pointer (some ⟨F,0,none⟩)) (h5:a.eval (.tmp 5)=vP) (h4:a.eval (.tmp 4)=.pointer (some ⟨R,0,none⟩))
  (HR:Hid (Blk wr R 71 zEJ)) (HCF:Hid (F<wr.heap.size/\wr.cell? ⟨F,6,none⟩=some (.string (bs op))/\wr.cell? ⟨F,5,none⟩=some (.string (bs bt))/\wr.cell? ⟨F,7,none⟩=some (.string (bs cl)))) (HJ:Hid (∀ w',Kept wr w'->Calls Tryz.prog 88 #[vP,.string (bs bt)] w' fun e w''=>e=.returned (.string (bs jn))/\Kept w' w'')) (HA1:Hid (∀ w,(Op.stringOp .add (bs op) (bs jn)).run Tryz.prog w=.ok (.string (bs x1)) w)) (HA2:Hid (∀ w,(Op.stringOp .add (bs x1) (bs cl)).run Tryz.prog w=.ok (.string (bs x2)) w))
  (hend:∀ (V:Nat->Value) w1 w',Kept wr w1->Only (fun i=>i=R) w1 w'->Blk w' R 71 (txC x2).toArray->Q .normal (((((((((((((((((((((a.put (some 64) (V 0)).put (some 65) (V 1)).put (some 66) (V 2)).put (some 67) (V 3)).put (some 68) (V 4)).put (some 69) (V 5)).put (some 70) (V 6)).put (some 71) (V 7)).put (some 72) (V 8)).put (some 73) (V 9)).put (some 74) (V 10)).put (some 75) (V 11)).put (some 76) (V 12)).put (some 77) (V 13)).put (some 78) (V 14)).put (some 79) (V 15)).put (some 80) (V 16)).put (some 81) (V 17)).put (some 82) (V 18)).put (some 83) (V 19)).put none (V 20)) w') :
  (Code.region id ops true).wp Tryz.prog Q a wr:=by
 have e0:=zaN p0;have e1:=zaN p1;have e2:=zaN p2;have e3:=zaN p3;have e4:=zaN p4;have e5:=zaN p5;have e6:=zaN p6;have e7:=zaN p7;have e8:=zaN p8;have e9:=zaN p9;have e10:=zaN p10;have e11:=zaN p11;have e12:=zaN p12;have e13:=zaN p13;have e14:=zaN p14;have e15:=zaN p15;have e16:=zaN p16;have e17:=zaN p17;have e18:=zaN p18;have e19:=zaN p19;have e20:=zaN p20;have hout:∀ t,(t=0\/t=5\/t=4)->∀ j,j<21->zg8 ops j≠some t:=by
  intro t ht j hj;obtain rfl|rfl|rfl|rfl|rfl|rfl|rfl|rfl|rfl|rfl|rfl|rfl|rfl|rfl|rfl|rfl|rfl|rfl|rfl|rfl|rfl:j=0\/j=1\/j=2\/j=3\/j=4\/j=5\/j=6\/j=7\/j=8\/j=9\/j=10\/j=11\/j=12\/j=13\/j=14\/j=15\/j=16\/j=17\/j=18\/j=19\/j=20:=(by omega)
  all_goals simp [e0,e1,e2,e3,e4,e5,e6,e7,e8,e9,e10,e11,e12,e13,e14,e15,e16,e17,e18,e19,e20]
  all_goals omega
 refine zcS 21 20 84 _ _ hc (by rfl) hz (zhS vP F R op cl bt jn x1 x2 wr.heap.size) (fun w=>Kept wr w) Kept
  (fun V w=>∃ w1,Kept wr w1/\Only (fun i=>i=R) w1 w/\Blk w R 71 (txC x2).toArray) ?_ ?_ ?_ ?_ ?_ ?_ ?_ ?_ ?_
 ·intro j hj V V' w hV h;have hjj:=hV j (.inl rfl);obtain rfl|rfl|rfl|rfl|rfl|rfl|rfl|rfl|rfl|rfl|rfl|rfl|rfl|rfl|rfl|rfl|rfl|rfl|rfl|rfl|rfl:j=0\/j=1\/j=2\/j=3\/j=4\/j=5\/j=6\/j=7\/j=8\/j=9\/j=10\/j=11\/j=12\/j=13\/j=14\/j=15\/j=16\/j=17\/j=18\/j=19\/j=20:=(by omega)
  all_goals (simp only[zhS] at h ⊢;try (rw[<- hjj];exact h))
 ·intro V V' w hV h;exact h
 ·intro j hj hne V w w' h k;obtain rfl|rfl|rfl|rfl|rfl|rfl|rfl|rfl|rfl|rfl|rfl|rfl|rfl|rfl|rfl|rfl|rfl|rfl|rfl|rfl:j=0\/j=1\/j=2\/j=3\/j=4\/j=5\/j=6\/j=7\/j=8\/j=9\/j=10\/j=11\/j=12\/j=13\/j=14\/j=15\/j=16\/j=17\/j=18\/j=19:=(by omega)
  all_goals exact h
 ·intro j hj hne hni;exfalso;apply hni;have:j<20:=(by omega);simp only[Array.getD,List.size_toArray];obtain rfl|rfl|rfl|rfl|rfl|rfl|rfl|rfl|rfl|rfl|rfl|rfl|rfl|rfl|rfl|rfl|rfl|rfl|rfl|rfl:j=0\/j=1\/j=2\/j=3\/j=4\/j=5\/j=6\/j=7\/j=8\/j=9\/j=10\/j=11\/j=12\/j=13\/j=14\/j=15\/j=16\/j=17\/j=18\/j=19:=(by omega)
  all_goals simp
 ·exact zaB wr 1
 ·intro i hi hne V a' w' hG hF hR hS K hK;have o0:=(hR 0 (hout 0 (by omega))).trans h0;have o5:=(hR 5 (hout 5 (by omega))).trans h5;have o4:=(hR 4 (hout 4 (by omega))).trans h4;have c6:w'.cell? ⟨F,6,none⟩=some (.string (bs op)):=(hG.cell (p:=⟨F,6,none⟩) HCF.out.1).trans HCF.out.2.1;have c5:w'.cell? ⟨F,5,none⟩=some (.string (bs bt)):=(hG.cell (p:=⟨F,5,none⟩) HCF.out.1).trans HCF.out.2.2.1;have c7:w'.cell? ⟨F,7,none⟩=some (.string (bs cl)):=(hG.cell (p:=⟨F,7,none⟩) HCF.out.1).trans HCF.out.2.2.2;have fz:=Nat.lt_of_lt_of_le HCF.out.1 hG.size;have same:∀ v,zhS vP F R op cl bt jn x1 x2 wr.heap.size i (upd V i v) w'->K (a'.put (zg8 ops i) v) w':=fun v h=>hK v w' (Kept.refl _) hG h;obtain rfl|rfl|rfl|rfl|rfl|rfl|rfl|rfl|rfl|rfl|rfl|rfl|rfl|rfl|rfl|rfl|rfl|rfl|rfl|rfl:i=0\/i=1\/i=2\/i=3\/i=4\/i=5\/i=6\/i=7\/i=8\/i=9\/i=10\/i=11\/i=12\/i=13\/i=14\/i=15\/i=16\/i=17\/i=18\/i=19:=(by omega)
  ·exact zeT p0 o0 (same _ (zaR _ _ _))
  ·have z0:=((hF 0 (by simp)).2 _ e0).trans (hF 0 (by simp)).1;refine zaY p1 (v:=.pointer (some ⟨F,0,none⟩)) (w':=w') (fun o1 ho=>?_) (same _ (zaR _ _ _));simp only[execOp,ho,z0];simp [go_sem,fz]
  ·have z1:=((hF 1 (by simp)).2 _ e1).trans (hF 1 (by simp)).1;refine zaY p2 (v:=.pointer (some ⟨F,0,none⟩)) (w':=w') (fun o1 ho=>?_) (same _ (zaR _ _ _));simp only[execOp,ho,z1];simp [go_sem,Tryz.underlying136]
  ·have z2:=((hF 2 (by simp)).2 _ e2).trans (hF 2 (by simp)).1;refine zaY p3 (v:=.pointer (some ⟨F,6,none⟩)) (w':=w') (fun o1 ho=>?_) (same _ (zaR _ _ _));simp only[execOp,ho,z2];simp [go_sem,Tryz.underlying33]
  ·have z3:=((hF 3 (by simp)).2 _ e3).trans (hF 3 (by simp)).1;refine zaY p4 (v:=.string (bs op)) (w':=w') (fun o1 ho=>?_) (same _ (zaR _ _ _));simp only[execOp,ho,z3];simp [go_sem,Tryz.underlying9,c6]
  ·exact zeT p5 o5 (same _ (zaR _ _ _))
  ·exact zeT p6 o0 (same _ (zaR _ _ _))
  ·have z6:=((hF 6 (by simp)).2 _ e6).trans (hF 6 (by simp)).1;refine zaY p7 (v:=.pointer (some ⟨F,0,none⟩)) (w':=w') (fun o1 ho=>?_) (same _ (zaR _ _ _));simp only[execOp,ho,z6];simp [go_sem,fz]
  ·have z7:=((hF 7 (by simp)).2 _ e7).trans (hF 7 (by simp)).1;refine zaY p8 (v:=.pointer (some ⟨F,0,none⟩)) (w':=w') (fun o1 ho=>?_) (same _ (zaR _ _ _));simp only[execOp,ho,z7];simp [go_sem,Tryz.underlying136]
  ·have z8:=((hF 8 (by simp)).2 _ e8).trans (hF 8 (by simp)).1;refine zaY p9 (v:=.pointer (some ⟨F,5,none⟩)) (w':=w') (fun o1 ho=>?_) (same _ (zaR _ _ _));simp only[execOp,ho,z8];simp [go_sem,Tryz.underlying33]
  ·have z9:=((hF 9 (by simp)).2 _ e9).trans (hF 9 (by simp)).1;refine zaY p10 (v:=.string (bs bt)) (w':=w') (fun o1 ho=>?_) (same _ (zaR _ _ _));simp only[execOp,ho,z9];simp [go_sem,Tryz.underlying9,c5]
  ·have z5:=((hF 5 (by simp)).2 _ e5).trans (hF 5 (by simp)).1;have z10:=((hF 10 (by simp)).2 _ e10).trans (hF 10 (by simp)).1;refine zdJ p11 (f:=88) (args:=#[vP,.string (bs bt)]) (w':=w') (fun o1 ho=>?_) ((HJ.out w' hG).mono fun e w'' ⟨he,hk⟩=>⟨_,he,hK _ w'' hk (hG.trans hk) (zaR _ _ _)⟩);simp only[execOp,ho,resolve,List.map_toArray,List.map_cons,List.map_nil,z5,z10];simp [go_sem]
  ·have z4:=((hF 4 (by simp)).2 _ e4).trans (hF 4 (by simp)).1;have z11:=((hF 11 (by simp)).2 _ e11).trans (hF 11 (by simp)).1;have z4:=((hF 4 (by simp)).2 _ e4).trans (hF 4 (by simp)).1;have z11:=((hF 11 (by simp)).2 _ e11).trans (hF 11 (by simp)).1;refine zaY p12 (v:=.string (bs x1)) (w':=w') (fun o1 ho=>?_) (same _ (zaR _ _ _));have hadd:=HA1.out w';simp only[execOp,ho,z4,z11];simp [go_sem,hadd]
  ·exact zeT p13 o0 (same _ (zaR _ _ _))
  ·have z13:=((hF 13 (by simp)).2 _ e13).trans (hF 13 (by simp)).1;refine zaY p14 (v:=.pointer (some ⟨F,0,none⟩)) (w':=w') (fun o1 ho=>?_) (same _ (zaR _ _ _));simp only[execOp,ho,z13];simp [go_sem,fz]
  ·have z14:=((hF 14 (by simp)).2 _ e14).trans (hF 14 (by simp)).1;refine zaY p15 (v:=.pointer (some ⟨F,0,none⟩)) (w':=w') (fun o1 ho=>?_) (same _ (zaR _ _ _));simp only[execOp,ho,z14];simp [go_sem,Tryz.underlying136]
  ·have z15:=((hF 15 (by simp)).2 _ e15).trans (hF 15 (by simp)).1;refine zaY p16 (v:=.pointer (some ⟨F,7,none⟩)) (w':=w') (fun o1 ho=>?_) (same _ (zaR _ _ _));simp only[execOp,ho,z15];simp [go_sem,Tryz.underlying33]
  ·have z16:=((hF 16 (by simp)).2 _ e16).trans (hF 16 (by simp)).1;refine zaY p17 (v:=.string (bs cl)) (w':=w') (fun o1 ho=>?_) (same _ (zaR _ _ _));simp only[execOp,ho,z16];simp [go_sem,Tryz.underlying9,c7]
  ·have z12:=((hF 12 (by simp)).2 _ e12).trans (hF 12 (by simp)).1;have z17:=((hF 17 (by simp)).2 _ e17).trans (hF 17 (by simp)).1;have z12:=((hF 12 (by simp)).2 _ e12).trans (hF 12 (by simp)).1;have z17:=((hF 17 (by simp)).2 _ e17).trans (hF 17 (by simp)).1;refine zaY p18 (v:=.string (bs x2)) (w':=w') (fun o1 ho=>?_) (same _ (zaR _ _ _));have hadd:=HA2.out w';simp only[execOp,ho,z12,z17];simp [go_sem,hadd]
  ·have z18:=((hF 18 (by simp)).2 _ e18).trans (hF 18 (by simp)).1;refine zdJ p19 (f:=174) (args:=#[.string (bs x2)]) (w':=w') (fun o1 ho=>?_) (((fun w' _=>zwJ x2 w') w' hG).mono fun e w'' ⟨he,hk⟩=>⟨_,he,hK _ w'' hk (hG.trans hk) (zaR _ _ _)⟩);simp only[execOp,ho,resolve,List.map_toArray,List.map_cons,List.map_nil,z18];simp [go_sem]
 ·intro V a' w' hG hF hR K hK;have o0:=(hR 0 (hout 0 (by omega))).trans h0;have o5:=(hR 5 (hout 5 (by omega))).trans h5;have o4:=(hR 4 (hout 4 (by omega))).trans h4;have z0:=((hF 19 (by simp)).2 _ e19).trans (hF 19 (by simp)).1;refine zdS p20 fun o1 ho hg' hd'=>?_;refine zbA hg' 71 (.tmp 4) (.tmp 83) ho R zEJ (txC x2).toArray o4 z0 (HR.out.kept hG) rfl Tryz.sizeIn1 (by simp [txC,Value.oneCell']) ?_;intro w2 hb2 ho2;rw[hd'];exact hK _ _ ⟨w',hG,ho2,hb2⟩
 ·intro i hi hne hni;exfalso;apply hni;have:i<20:=(by omega);obtain rfl|rfl|rfl|rfl|rfl|rfl|rfl|rfl|rfl|rfl|rfl|rfl|rfl|rfl|rfl|rfl|rfl|rfl|rfl|rfl:i=0\/i=1\/i=2\/i=3\/i=4\/i=5\/i=6\/i=7\/i=8\/i=9\/i=10\/i=11\/i=12\/i=13\/i=14\/i=15\/i=16\/i=17\/i=18\/i=19:=(by omega)
  all_goals simp
 ·intro V w' ⟨w1,g1,g2,g3⟩ _;have:=hend V w1 w' g1 g2 g3;simp only[zdF,e0,e1,e2,e3,e4,e5,e6,e7,e8,e9,e10,e11,e12,e13,e14,e15,e16,e17,e18,e19,e20];exact this
end Go.Proofs.YtmcoomlkbgiboaaGreatDoor
