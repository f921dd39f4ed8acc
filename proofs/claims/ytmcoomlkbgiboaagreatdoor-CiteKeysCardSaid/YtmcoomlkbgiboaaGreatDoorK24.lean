/- line and small of style. Conditions: lengths. -/
import Derived.Test.YtmcoomlkbgiboaaGreatDoorK23
import Derived.Test.YtmcoomlkbgiboaaGreatDoorK06
import Derived.Test.YtmcoomlkbgiboaaGreatDoorK07
import Derived.Test.YtmcoomlkbgiboaaGreatDoorK10
import Derived.Test.YtmcoomlkbgiboaaGreatDoorK11

set_option linter.all false
namespace Go.Proofs.YtmcoomlkbgiboaaGreatDoor
open Go.RowKit

set_option maxRecDepth 100000 in
set_option maxHeartbeats 1600000 in
theorem sline_any (l:Bs) (w:World) (hl:l.length≤1000000000):Calls Tryz.prog 85 #[.string (bs l)] w fun e w'=>e=.returned (.bool (lnB l))∧Kept w w':=by
 have HV:=Lib.hid (fun w=>valid_any (bs l) w (by simpa using hl))
 have HC:=Lib.hid (fun w=>Tryz.strings_Contains_one (bs l) 10 w)
 simp only [bs_data] at HC
 have HCC:Hid (decide (0≤Lib.indexByte l 10)=List.contains l 10):=indexByte_contains 10 l
 have HL:Hid (lnB l=(validB (bs l) && !l.contains 10)):=rfl
 generalize lnB l=R at *
 generalize validB (bs l)=V at *
 generalize List.contains l 10=C at *
 go_enter Tryz.func85,Tryz.ntmps85
 go_wp2_with fail
 refine (HV.out _).mono ?_
 rintro e w1 ⟨rfl,n,rfl⟩
 cases V with
 | false =>
  go_wp2_with fail
  go_ret
  exact ⟨ret_bool (by rw [HL.out]; rfl),kept_drewN _ _⟩
 | true =>
  go_wp2_with fail
  refine (HC.out _).mono ?_
  rintro e w2 ⟨rfl,rfl⟩
  go_wp2_with fail
  go_ret
  exact ⟨ret_bool (by rw [HL.out,← HCC.out,Bool.true_and]; exact congrArg not (decide_eq_decide.2 Iff.rfl)),kept_drewN _ _⟩
set_option maxRecDepth 100000 in
set_option maxHeartbeats 1600000 in
theorem ssmall_any (l more:Bs) (most:Int) (w:World) (hl:l.length≤1000000000):Calls Tryz.prog 82 #[.string (bs l),.int .i64 most,.string (bs more)] w fun e w'=>e=.returned (.bool (smallB l most more))∧Kept w w':=by
 have HX:=Lib.hid (fun c w=>Tryz.strings_IndexByte (bs more) c w)
 simp only [bs_data] at HX
 have HF:Hid (∀ k (hk:k<l.length),lowB l[k]=false→more.contains l[k]=false→smallB l most more=false):=by
  intro k hk h1 h2
  unfold smallB
  have:(l.all fun b=>lowB b || more.contains b)=false:=List.all_eq_false.2 ⟨l[k],List.getElem_mem hk,by rw [h1,h2]; simp⟩
  rw [this]; simp
 have HT:Hid ((∀ k (hk:k<l.length),lowB l[k]=true∨more.contains l[k]=true)→smallB l most more=(decide (1≤l.length) && decide ((l.length:Int)≤most))):=by
  intro h
  unfold smallB
  have:(l.all fun b=>lowB b || more.contains b)=true:=List.all_eq_true.2 (fun b hb=>by
   obtain ⟨k,hk,e⟩:=List.getElem_of_mem hb
   have:=h k hk
   rw [e] at this
   rcases this with q | q <;> rw [q] <;> simp)
  rw [this]; simp
 by_cases h0:l=[]
 ·subst h0
  go_enter Tryz.func82,Tryz.ntmps82
  go_wp2_with fail
  go_ret
  exact ⟨rfl,Kept.refl _⟩
 have h0':(l == ([]:Bs))=false:=by simpa using h0
 have hl0:1≤l.length:=by cases l <;> simp at h0 ⊢
 by_cases h1:most<(l.length:Int)
 ·have HE:Hid (smallB l most more=false):=by
   show _=_
   unfold smallB
   rw [decide_eq_false (show ¬ (l.length:Int)≤most by omega)]; simp
  obtain ⟨R,HR⟩:∃ R,Hid (smallB l most more=R):=⟨_,rfl⟩
  rw [HR.out] at HE ⊢
  go_enter Tryz.func82,Tryz.ntmps82
  go_wp2_with fail
  go_ret
  exact ⟨ret_bool HE.out.symm,Kept.refl _⟩
 have HE:Hid ((∀ k (hk:k<l.length),lowB l[k]=true∨more.contains l[k]=true)→smallB l most more=true):=by
  intro h
  rw [HT.out h,decide_eq_true hl0,decide_eq_true (show (l.length:Int)≤most by omega)]; rfl
 obtain ⟨R,HR⟩:∃ R,Hid (smallB l most more=R):=⟨_,rfl⟩
 rw [HR.out] at HE HF ⊢
 clear HT HR hl0
 go_enter Tryz.func82,Tryz.ntmps82
 go_wp2_with fail
 go_loop [18] (fun i=>∃ k:Nat,k≤l.length∧i=.int .i64 k∧Hid (∀ j (hj:j<l.length),j<k→lowB l[j]=true∨more.contains l[j]=true)) (fun i=>l.length - (intOf i).toNat)
 case atStart=>exact ⟨0,Nat.zero_le _,rfl,fun j hj h=>by omega⟩
 case round =>
  obtain ⟨k,hk,rfl,HN⟩:=hrel
  by_cases hlt:k<l.length
  ·have i0:=run_ix (P:=Tryz.prog) (t:=9) Tryz.underlying9 l k hlt k rfl
   have h8:=at8_lo l k
   have HB:Hid (at8 l k=(l[k].toNat:Int)):=at8_get l k hlt
   have HLO:Hid (lowB l[k]=(decide (97≤at8 l k) && decide (at8 l k≤122))):=by
    show _=_
    rw [at8_get l k hlt]; rfl
   have HIX:Hid (decide (0≤Lib.indexByte more (at8 l k).toNat.toUInt8)=more.contains l[k]):=by
    show _=_
    rw [HB.out,Int.toNat_natCast,show (l[k].toNat).toUInt8=l[k] from by simp,indexByte_contains]
   have HFK:=Lib.hid (HF.out k hlt)
   have HNK:Hid ((lowB l[k]=true∨more.contains l[k]=true)→∀ j (hj:j<l.length),j<k+1→lowB l[j]=true∨more.contains l[j]=true):=by
    intro h j hj hjk
    rcases Nat.lt_or_ge j k with q | q
    ·exact HN.out j hj q
    ·obtain rfl:j=k:=by omega
     exact h
   have hge:=Lib.indexByte_ge more (at8 l k).toNat.toUInt8
   have HXK:=Lib.hid (fun w=>HX.out (at8 l k) w)
   by_cases hlow:97≤at8 l k∧at8 l k≤122
   ·obtain ⟨q1,q2⟩:=hlow
    have HS:=Lib.hid (HNK.out (.inl (by rw [HLO.out,decide_eq_true q1,decide_eq_true q2]; rfl)))
    have b1:¬ at8 l k<97:=by omega
    have b2:¬ 122<at8 l k:=by omega
    generalize at8 l k=b at *
    clear HNK HFK HXK HIX hge q1 q2 HLO HB
    go_wp2_with fail
    go_round
    case rel=>exact ⟨k+1,by omega,by go_num,HS.out⟩
    case measure=>simp [intOf]; omega
   ·have HLF:Hid (lowB l[k]=false):=by
     show _=_
     rw [HLO.out,Bool.and_eq_false_iff,decide_eq_false_iff_not,decide_eq_false_iff_not]
     omega
    have hlow':at8 l k<97∨122<at8 l k:=by omega
    generalize Lib.indexByte more (at8 l k).toNat.toUInt8=r at *
    by_cases hr:0≤r
    ·have HS:=Lib.hid (HNK.out (.inr (by rw [← HIX.out]; exact decide_eq_true hr)))
     have hr':¬ r<0:=by omega
     generalize at8 l k=b at *
     clear HNK HFK HIX HLO HB HLF hlow
     by_cases q1:b<97
     ·clear hlow'
      go_wp2_with fail
      refine (HXK.out _).mono ?_
      rintro e w2 ⟨rfl,rfl⟩
      go_wp2_with fail
      go_round
      case rel=>exact ⟨k+1,by omega,by go_num,HS.out⟩
      case measure=>simp [intOf]; omega
     ·have q2:122<b:=by omega
      clear hlow'
      go_wp2_with fail
      refine (HXK.out _).mono ?_
      rintro e w2 ⟨rfl,rfl⟩
      go_wp2_with fail
      go_round
      case rel=>exact ⟨k+1,by omega,by go_num,HS.out⟩
      case measure=>simp [intOf]; omega
    ·have HR:=Lib.hid (HFK.out HLF.out (by rw [← HIX.out]; exact decide_eq_false hr))
     have hr':r<0:=by omega
     generalize at8 l k=b at *
     clear HNK HFK HIX HLO HB HLF hlow
     by_cases q1:b<97
     ·clear hlow'
      go_wp2_with fail
      refine (HXK.out _).mono ?_
      rintro e w2 ⟨rfl,rfl⟩
      go_wp2_with fail
      go_ret
      exact ⟨ret_bool HR.out.symm,Kept.refl _⟩
     ·have q2:122<b:=by omega
      clear hlow'
      go_wp2_with fail
      refine (HXK.out _).mono ?_
      rintro e w2 ⟨rfl,rfl⟩
      go_wp2_with fail
      go_ret
      exact ⟨ret_bool HR.out.symm,Kept.refl _⟩
  ·obtain rfl:k=l.length:=by omega
   have HR:=Lib.hid (HE.out (fun k hk=>HN.out k hk hk))
   go_wp2_with fail
   go_ret
   exact ⟨ret_bool HR.out.symm,Kept.refl _⟩
end Go.Proofs.YtmcoomlkbgiboaaGreatDoor

/- Pieces of templates in memory. No condition. -/
set_option linter.all false
namespace Go.Proofs.YtmcoomlkbgiboaaGreatDoor
open Go.RowKit

def pcC (ps:List Pc):List Value:=ps.flatMap fun q=>[.string (bs q.txt),.bool q.fld,.int .i64 (q.grp:Int)]
theorem pcC_snoc (ps:List Pc) (q:Pc):pcC (ps ++ [q])=pcC ps ++ [.string (bs q.txt),.bool q.fld,.int .i64 (q.grp:Int)]:=by simp [pcC]
theorem pcC_at (ps:List Pc) (j:Nat) (q:Pc) (h:ps[j]? = some q):(pcC ps)[j * 3]? = some (.string (bs q.txt))∧(pcC ps)[j * 3+1]? = some (.bool q.fld)∧(pcC ps)[j * 3+2]? = some (.int .i64 (q.grp:Int)):=by
 induction ps generalizing j with
 | nil=>cases h
 | cons p ps ih =>
  have e:pcC (p :: ps)=[.string (bs p.txt),.bool p.fld,.int .i64 (p.grp:Int)] ++ pcC ps:=by simp [pcC]
  rw [e]
  cases j with
  | zero =>
   simp at h; subst h
   exact ⟨rfl,rfl,rfl⟩
  | succ j =>
   obtain ⟨h0,h1,h2⟩:=ih j (by simpa using h)
   rw [List.getElem?_append_right (by simp; omega),List.getElem?_append_right (by simp; omega),List.getElem?_append_right (by simp; omega)]
   simp only [List.length_cons,List.length_nil]
   rw [show (j+1) * 3 - (0+1+1+1)=j * 3 by omega,show (j+1) * 3+1 - (0+1+1+1)=j * 3+1 by omega,show (j+1) * 3+2 - (0+1+1+1)=j * 3+2 by omega]
   exact ⟨h0,h1,h2⟩
/-- The slice value v reads in w as the pieces ps. -/
def Pcs (w:World) (v:Value) (ps:List Pc):Prop :=
 ∃ a c,v=.slice a ps.length c∧ps.length≤c∧(0<ps.length→∃ g o,a=some ⟨g,o,none⟩∧g<w.heap.size∧∀ j q,ps[j]? = some q →
  w.cell? ⟨g,o+j * 3,none⟩=some (.string (bs q.txt))∧w.cell? ⟨g,o+j * 3+1,none⟩=some (.bool q.fld)∧w.cell? ⟨g,o+j * 3+2,none⟩=some (.int .i64 (q.grp:Int)))
theorem Pcs.kept {w w':World} {v:Value} {ps:List Pc} (h:Pcs w v ps) (k:Kept w w'):Pcs w' v ps:=by
 obtain ⟨a,c,hv,hc,h3⟩:=h
 refine ⟨a,c,hv,hc,fun q=>?_⟩
 obtain ⟨g,o,ha,hg,hcell⟩:=h3 q
 refine ⟨g,o,ha,Nat.lt_of_lt_of_le hg k.size,fun j x hx=>?_⟩
 obtain ⟨c0,c1,c2⟩:=hcell j x hx
 exact ⟨(k.cell (p:=⟨g,o+j * 3,none⟩) hg).trans c0,(k.cell (p:=⟨g,o+j * 3+1,none⟩) hg).trans c1,(k.cell (p:=⟨g,o+j * 3+2,none⟩) hg).trans c2⟩
theorem Pcs.own {w:World} {base:Nat} {e:TypeId} {v:Value} {ps:List Pc} (h:w.ownsRow base e 3 v ps.length (pcC ps)):Pcs w v ps:=by
 obtain ⟨a,c,hv,hc,_,h3⟩:=own_cap h
 refine ⟨a,c,hv,hc,fun q=>?_⟩
 obtain ⟨g,ha,_,hg,hcell⟩:=h3 q
 refine ⟨g,0,ha,hg,fun j x hx=>?_⟩
 obtain ⟨c0,c1,c2⟩:=pcC_at ps j x hx
 simp only [Nat.zero_add]
 exact ⟨hcell _ _ c0,hcell _ _ c1,hcell _ _ c2⟩
theorem Pcs.nil (w:World):Pcs w (.slice none 0 0) []:=⟨none,0,rfl,Nat.le_refl _,fun q=>absurd q (by simp)⟩
theorem Pcs.form {w:World} {v:Value} {ps:List Pc} (h:Pcs w v ps):∃ a c,v=.slice a ps.length c∧ps.length≤c:=by
 obtain ⟨a,c,hv,hc,_⟩:=h; exact ⟨a,c,hv,hc⟩
theorem Pcs.cell_of {w:World} {a:Option Addr} {n c:Nat} {ps:List Pc} (h:Pcs w (.slice a n c) ps) (k:Nat) (q:Pc) (hx:ps[k]? = some q) :
  ∃ g o,a=some ⟨g,o,none⟩∧g<w.heap.size∧w.cell? ⟨g,o+k * 3,none⟩=some (.string (bs q.txt))∧w.cell? ⟨g,o+k * 3+1,none⟩=some (.bool q.fld)∧w.cell? ⟨g,o+k * 3+2,none⟩=some (.int .i64 (q.grp:Int)):=by
 obtain ⟨a',c',hv,hc,h3⟩:=h
 obtain ⟨rfl,rfl,rfl⟩:=Value.slice.inj hv
 obtain ⟨hk,_⟩:=List.getElem?_eq_some_iff.1 hx
 obtain ⟨g,o,ha,hg,hcell⟩:=h3 (by omega)
 obtain ⟨c0,c1,c2⟩:=hcell k q hx
 exact ⟨g,o,ha,hg,c0,c1,c2⟩
theorem Tryz.infoPc:(Tryz.prog.info? 118).map (fun i=>(i.zero,i.size,i.bytes))=some (some (.agg #[.string ⟨#[]⟩,.bool false,.int .i64 0]),3,32):=by kernel_rfl
set_option maxRecDepth 100000 in
/-- A piece that lies in a block of its own, appended in a plain region. -/
theorem wpList_append_pc (w:World) {ops:Array Oper} {rest:List Oper} {o:Oper} {a:Act} {Q:Exit→Act→World→Prop} (hgd:o.guard=none) (s x:Operand)
  (ho:o.op=.call { callee:=.builtin .append,args:=#[s,x],argTypes:=#[111,111] })
  (base:Nat) (v:Value) (ps:List Pc) (hs:a.eval s=v) (hown:w.ownsRow base 118 3 v ps.length (pcC ps)) (q:Pc) (g:Nat) (hx:a.eval x=.slice (some ⟨g,0,none⟩) 1 1)
  (hb:Blk w g 118 #[.string (bs q.txt),.bool q.fld,.int .i64 (q.grp:Int)]) (hl:ps.length≤1000000) (hbase:base≤w.heap.size)
  (h:∀ v' w',w'.ownsRow base 118 3 v' (ps ++ [q]).length (pcC (ps ++ [q]))→w.grownBy w' v.ownBlock→wpList Tryz.prog ops Q rest (a.put o.dst v') w') :
  wpList Tryz.prog ops Q (o :: rest) a w:=by
 obtain ⟨i0,hi,hz0,hz1,hz2⟩:=info_parts Tryz.infoPc
 refine wpList_append_lies w hgd s x 111 ho base 118 i0 (.agg #[.string ⟨#[]⟩,.bool false,.int .i64 0]) 3 32 Tryz.underlying111 hi hz0 hz1 hz2 rfl (by decide) v ps.length (pcC ps) hs hown ⟨g,0,none⟩ 1 1 [.string (bs q.txt),.bool q.fld,.int .i64 (q.grp:Int)] hx rfl (fun j u hu=>?_) (fun u hu=>?_) (by decide) (by unfold maxLen; omega) (by omega) hbase w.heap.size rfl (fun g' cap w' h1 h2 _ _=>h _ w' ?_ h2)
 ·rw [addr_at,Nat.zero_add]
  match j with
  | 0=>cases hu; exact hb.cell 0 _ rfl
  | 1=>cases hu; exact hb.cell 1 _ rfl
  | 2=>cases hu; exact hb.cell 2 _ rfl
  | j+3=>simp at hu
 ·simp at hu
  rcases hu with rfl | rfl | rfl <;> rfl
 ·rw [pcC_snoc,List.length_append]; exact h1
end Go.Proofs.YtmcoomlkbgiboaaGreatDoor

/- split of style. Conditions: lengths. -/
set_option linter.all false
namespace Go.Proofs.YtmcoomlkbgiboaaGreatDoor
open Go.RowKit

def strN:Value→Nat
 | .string s=>s.size
 | _=>0
def SplitP (t:Bs) (w:World) (e:Ending) (w':World):Prop:=∃ v,e=.returned (.tuple #[v,.int .i64 (splE t)])∧Pcs w' v (splL t)∧Kept w w'
theorem SplitP.bad {t:Bs} {w w':World} (h:splE t≠0) (k:Kept w w'):SplitP t w (.returned (.tuple #[.slice none 0 0,.int .i64 (splE t)])) w' :=
 ⟨_,rfl,by unfold splL; rw [if_neg h]; exact Pcs.nil _,k⟩
theorem splE_form {t:Bs} (h:lnB t=true) (hs:splT t=none):splE t=5:=by unfold splE; rw [h,hs]; rfl
theorem splE_ok {t:Bs} {l:List Pc} (h:lnB t=true) (hs:splT t=some l):splE t=0∧splL t=l:=by
 have e:splE t=0:=by unfold splE; rw [h,hs]; rfl
 exact ⟨e,by unfold splL; rw [if_pos e,hs]; rfl⟩
theorem splE_text {t:Bs} (h:lnB t=false):splE t=17:=by unfold splE; rw [h]; rfl
theorem SplitP.five {t:Bs} {w w':World} (hl:lnB t=true) (hs:splT t=none) (k:Kept w w'):SplitP t w (.returned (.tuple #[.slice none 0 0,.int .i64 5])) w':=by
 have e:=splE_form hl hs
 have h:splE t≠0:=by rw [e]; decide
 have:=SplitP.bad h k
 rwa [e] at this
theorem ascii_sp:Ascii spSet:=by
 intro b hb
 unfold spSet at hb
 simp at hb
 rcases hb with rfl | rfl | rfl | rfl <;> decide
theorem map_pre (ps:List Pc) (q:Pc) (o:Option (List Pc)):(o.map fun l=>q :: l).map (ps ++ ·)=o.map ((ps ++ [q]) ++ ·):=by
 cases o <;> simp
set_option maxRecDepth 100000 in
set_option maxHeartbeats 6400000 in
theorem ssplit_any (t:Bs) (w:World) (hg:Gnd w) (ht:t.length≤100000):Calls Tryz.prog 60 #[.string (bs t)] w (SplitP t w):=by
 have HG:=Lib.hid hg
 have HLN:=Lib.hid (fun w=>sline_any t w (by omega))
 clear hg
 by_cases hline:lnB t=true
 case neg =>
  have hline':lnB t=false:=by simpa using hline
  rw [hline'] at HLN
  have HB:Hid (∀ w',Kept w w'→SplitP t w (.returned (.tuple #[.slice none 0 0,.int .i64 17])) w'):=fun w' k=>by
   have h:=SplitP.bad (t:=t) (w:=w) (w':=w') (by rw [splE_text hline']; decide) k
   rwa [splE_text hline'] at h
  generalize hP:SplitP t w=P at *
  clear hP
  go_enter Tryz.func60,Tryz.ntmps60
  go_wp2_with fail
  refine (HLN.out _).mono ?_
  rintro e w1 ⟨rfl,hk1⟩
  have HK1:=Lib.hid hk1
  clear hk1
  go_wp2_with fail
  exact HB.out _ HK1.out
 rw [hline] at HLN
 have H5:Hid (splT t=none→∀ w',Kept w w'→SplitP t w (.returned (.tuple #[.slice none 0 0,.int .i64 5])) w'):=fun h w' k=>SplitP.five hline h k
 have HOK:Hid (∀ l,splT t=some l→∀ w' v,Pcs w' v l→Kept w w'→SplitP t w (.returned (.tuple #[v,.int .i64 0])) w'):=fun l h w' v hp k=>by
  obtain ⟨e1,e2⟩:=splE_ok hline h
  refine ⟨v,by rw [e1],by rw [e2]; exact hp,k⟩
 have H0:Hid (splT t=(splP (t.length+1) t 0 0).map (([]:List Pc) ++ ·)):=by
  show _=_
  unfold splT
  cases splP (t.length+1) t 0 0 <;> simp
 generalize hP:SplitP t w=P at *
 generalize splT t=S at *
 clear hP hline
 go_enter Tryz.func60,Tryz.ntmps60
 go_wp2_with fail
 refine (HLN.out _).mono ?_
 rintro e w1 ⟨rfl,hk1⟩
 have HK1:=Lib.hid hk1
 clear hk1 HLN
 go_wp2_with fail
 go_loopw [4,5,6,7] (fun ov gv hv rv wr=>∃ (f:Nat) (ps:List Pc) (G g:Nat) (r:Bs),gv=.int .i64 G∧hv=.int .i64 g∧rv=.string (bs r)∧Hid (wr.ownsRow w.heap.size 118 3 ov ps.length (pcC ps))∧r.length<f∧ps.length+r.length≤t.length∧G+r.length≤t.length∧g≤G∧Hid (S=(splP f r G g).map (ps ++ ·))∧Hid (Kept w wr)) (fun _ _ _ rv _=>strN rv)
 case atStart=>exact ⟨t.length+1,[],0,0,t,rfl,rfl,rfl,World.ownsRow_nil _ _ _ _,by omega,by simp,by omega,by omega,H0.out,HK1.out⟩
 case round =>
  obtain ⟨f,ps,G,g,r,rfl,rfl,rfl,HOWN,hf,hps,hG,hgG,HSP,HKR⟩:=hrel
  obtain ⟨f,rfl⟩:∃ f',f=f'+1:=⟨f - 1,by omega⟩
  cases r with
  | nil =>
   rw [splP_end] at HSP
   by_cases hg0:g=0
   ·subst hg0
    have HS:Hid (S=some ps):=by
     show _=_
     rw [HSP.out,if_pos rfl]; simp
    have HP:=Lib.hid (Pcs.own HOWN.out)
    go_wp2_with fail
    exact HOK.out ps HS.out _ _ HP.out HKR.out
   ·have HS:Hid (S=none):=by
     show _=_
     rw [HSP.out,if_neg hg0]; rfl
    have hg0':((g:Int) == 0)=false:=by rw [beq_eq_false_iff_ne]; omega
    go_wp2_with fail
    exact H5.out HS.out _ HKR.out
  | cons b r =>
   have hrl:r.length+1=(b :: r).length:=rfl
   obtain ⟨L,HLL⟩:∃ L,Hid (b :: r=L):=⟨_,rfl⟩
   have hLL:=HLL.out
   rw [hLL] at hrl hf hps hG
   have hne:(L == ([]:Bs))=false:=by rw [← hLL]; rfl
   have hLp:0<L.length:=by omega
   have HIX:=Lib.hid (fun w=>iidx_any L spSet w ascii_sp (by decide) (by decide) (by omega))
   unfold IdxPost at HIX
   cases hin:inSet spSet b with
   | false =>
    rw [splP_run _ _ _ hin,hLL,map_pre] at HSP
    have hrun:=runN_pos (r:=r) hin
    rw [hLL] at hrun ⊢
    clear HLL hLL hin
    rcases hrun with ⟨hi,hn⟩ | ⟨k,hi,hn,hk0,hkl⟩
    ·rw [hi] at HIX
     rw [hn,hrl] at HSP
     obtain ⟨X,HXX⟩:∃ X,Hid (L.take L.length=X):=⟨_,rfl⟩
     obtain ⟨Y,HYY⟩:∃ Y,Hid (L.drop L.length=Y):=⟨_,rfl⟩
     have hyl:Y.length=0:=by rw [← HYY.out]; simp
     have hxl:X.length≤L.length:=by rw [← HXX.out]; simp
     have u1:=run_upto (P:=Tryz.prog) (t:=9) Tryz.underlying9 L L.length (Nat.le_refl _) (L.length:Int) rfl X HXX.out
     have u2:=run_from (P:=Tryz.prog) (t:=9) Tryz.underlying9 L L.length (Nat.le_refl _) (L.length:Int) rfl Y HYY.out
     rw [HXX.out,HYY.out] at HSP
     clear hi hn
     go_wp2_with fail
     refine (HIX.out _).mono ?_
     rintro e w3 ⟨rfl,hk3⟩
     have HKW:=Lib.hid (HKR.out.trans hk3)
     have HOW:=Lib.hid (own_kept HOWN.out hk3)
     clear hk3 HIX HOWN HKR
     have HBQ:=Lib.hid (Blk.new w3 118 #[.string (bs X),.bool false,.int .i64 (g:Int)])
     have hszW:w.heap.size≤w3.heap.size:=HKW.out.size
     go_wp2_with (at_builtin; refine wpList_append_pc _ rfl _ _ rfl w.heap.size _ ps rfl (HOW.out.alloc _) ⟨X,false,g⟩ w3.heap.size rfl HBQ.out (by omega) (by simp; omega) ?_; intro v5 w5 hown5 hgrow5; rw [List.length_append,List.length_singleton] at hown5; have HO5:=Lib.hid hown5; have HK5:=Lib.hid ((HKW.out.trans (kept_alloc w3 _)).trans' (grown_below (HOW.out.alloc _) hgrow5 (by simp; omega))); obtain ⟨a5,c5,rfl,-,-,-⟩:=own_cap hown5; clear hown5 hgrow5)
     go_roundw
     case rel=>exact ⟨f,ps ++ [Pc.mk X false g],G,g,Y,rfl,rfl,rfl,(by show World.ownsRow _ _ _ _ _ _ _; rw [List.length_append]; exact HO5.out),by omega,by rw [List.length_append,List.length_singleton]; omega,by omega,by omega,HSP.out,HK5.out⟩
     case measure=>simp [strN]; omega
    ·rw [hi] at HIX
     rw [hn] at HSP
     obtain ⟨X,HXX⟩:∃ X,Hid (L.take k=X):=⟨_,rfl⟩
     obtain ⟨Y,HYY⟩:∃ Y,Hid (L.drop k=Y):=⟨_,rfl⟩
     have hyl:Y.length=L.length - k:=by rw [← HYY.out]; simp
     have hxl:X.length≤L.length:=by rw [← HXX.out,List.length_take]; omega
     have u1:=run_upto (P:=Tryz.prog) (t:=9) Tryz.underlying9 L k (by omega) (k:Int) rfl X HXX.out
     have u2:=run_from (P:=Tryz.prog) (t:=9) Tryz.underlying9 L k (by omega) (k:Int) rfl Y HYY.out
     have hk1:((k:Int) == 0)=false:=by rw [beq_eq_false_iff_ne]; omega
     have hk2:¬ (k:Int)<0:=by omega
     rw [HXX.out,HYY.out] at HSP
     clear hi hn
     go_wp2_with fail
     refine (HIX.out _).mono ?_
     rintro e w3 ⟨rfl,hk3⟩
     have HKW:=Lib.hid (HKR.out.trans hk3)
     have HOW:=Lib.hid (own_kept HOWN.out hk3)
     clear hk3 HIX HOWN HKR
     have HBQ:=Lib.hid (Blk.new w3 118 #[.string (bs X),.bool false,.int .i64 (g:Int)])
     have hszW:w.heap.size≤w3.heap.size:=HKW.out.size
     go_wp2_with (at_builtin; refine wpList_append_pc _ rfl _ _ rfl w.heap.size _ ps rfl (HOW.out.alloc _) ⟨X,false,g⟩ w3.heap.size rfl HBQ.out (by omega) (by simp; omega) ?_; intro v5 w5 hown5 hgrow5; rw [List.length_append,List.length_singleton] at hown5; have HO5:=Lib.hid hown5; have HK5:=Lib.hid ((HKW.out.trans (kept_alloc w3 _)).trans' (grown_below (HOW.out.alloc _) hgrow5 (by simp; omega))); obtain ⟨a5,c5,rfl,-,-,-⟩:=own_cap hown5; clear hown5 hgrow5)
     go_roundw
     case rel=>exact ⟨f,ps ++ [Pc.mk X false g],G,g,Y,rfl,rfl,rfl,(by show World.ownsRow _ _ _ _ _ _ _; rw [List.length_append]; exact HO5.out),by omega,by rw [List.length_append,List.length_singleton]; omega,by omega,by omega,HSP.out,HK5.out⟩
     case measure=>simp [strN]; omega
   | true =>
    have hz:Lib.indexAny L spSet=0:=by rw [← hLL]; exact runN_zero hin
    rw [hz] at HIX
    have i0:=run_ix (P:=Tryz.prog) (t:=9) Tryz.underlying9 L 0 hLp 0 rfl
    have h8:at8 L 0=(b.toNat:Int):=by rw [← hLL]; rfl
    have u1:=run_from (P:=Tryz.prog) (t:=9) Tryz.underlying9 L 1 (by omega) 1 rfl r (by rw [← hLL]; rfl)
    have hb:=spSet_cases hin
    clear hin hz
    rw [hLL]
    clear HLL hLL
    rcases hb with rfl | rfl | rfl | rfl
    ·simp only [h8] at i0
     rw [splP_fld] at HSP
     have HCUT:=Lib.hid (fun w h=>cut_any r 125 w h (by omega))
     have HSMA:=Lib.hid (fun x w (h:x.length≤1000000000)=>ssmall_any x [] 20 w h)
     clear h8
     go_wp2_with fail
     refine (HIX.out _).mono ?_
     rintro e w3 ⟨rfl,hk3⟩
     have HKW:=Lib.hid (HKR.out.trans hk3)
     have HOW:=Lib.hid (own_kept HOWN.out hk3)
     have HGW:=Lib.hid (HG.out.kept HKW.out)
     clear hk3 HIX HOWN HKR
     by_cases hbf:before 125 r<r.length
     ·simp only [if_pos hbf] at HCUT
      have hrl1:(r.take (before 125 r)).length≤r.length:=by rw [List.length_take]; omega
      have hrl2:(r.drop (before 125 r+1)).length≤r.length - 1:=by rw [List.length_drop]; omega
      generalize r.take (before 125 r)=X at *
      generalize r.drop (before 125 r+1)=Y at *
      have HSMB:=Lib.hid (fun w=>HSMA.out X w (by omega))
      go_wp2_with fail
      refine (HCUT.out _ HGW.out).mono ?_
      rintro e w4 ⟨rfl,n4,rfl⟩
      have HKW4:=Lib.hid (HKW.out.trans (kept_drewN w3 n4))
      have HOW4:=Lib.hid (own_kept HOW.out (kept_drewN w3 n4))
      generalize w3.drewN n4=w4 at *
      go_wp2_with fail
      refine (HSMB.out _).mono ?_
      rintro e w5 ⟨rfl,hk5⟩
      have HKW:=Lib.hid (HKW4.out.trans hk5)
      have HOW:=Lib.hid (own_kept HOW4.out hk5)
      clear hk5 HKW4 HOW4
      cases hsb:smallB X 20 [] with
      | false =>
       have HS:Hid (S=none):=by
        show _=_
        rw [HSP.out,hsb,if_neg (by simp)]; rfl
       clear hsb
       go_wp2_with fail
       exact H5.out HS.out _ HKW.out
      | true =>
       rw [hsb,if_pos ⟨hbf,rfl⟩,map_pre] at HSP
       clear hsb HSMA HSMB HCUT
       have HBQ:=Lib.hid (Blk.new w5 118 #[.string (bs X),.bool true,.int .i64 (g:Int)])
       have hszW:w.heap.size≤w5.heap.size:=HKW.out.size
       go_wp2_with (at_builtin; refine wpList_append_pc _ rfl _ _ rfl w.heap.size _ ps rfl (HOW.out.alloc _) ⟨X,true,g⟩ w5.heap.size rfl HBQ.out (by omega) (by simp; omega) ?_; intro v5 w9 hown5 hgrow9; rw [List.length_append,List.length_singleton] at hown5; have HO5:=Lib.hid hown5; have HK5:=Lib.hid ((HKW.out.trans (kept_alloc w5 _)).trans' (grown_below (HOW.out.alloc _) hgrow9 (by simp; omega))); obtain ⟨a5,c5,rfl,-,-,-⟩:=own_cap hown5; clear hown5 hgrow9)
       go_roundw
       case rel=>exact ⟨f,ps ++ [Pc.mk X true g],G,g,Y,rfl,rfl,rfl,(by show World.ownsRow _ _ _ _ _ _ _; rw [List.length_append]; exact HO5.out),by omega,by rw [List.length_append,List.length_singleton]; omega,by omega,by omega,HSP.out,HK5.out⟩
       case measure=>simp [strN]; omega
     ·simp only [if_neg hbf] at HCUT
      have HS:Hid (S=none):=by
       show _=_
       rw [HSP.out,if_neg (fun q=>hbf q.1)]; rfl
      go_wp2_with fail
      refine (HCUT.out _ HGW.out).mono ?_
      rintro e w4 ⟨rfl,n4,rfl⟩
      have HKW4:=Lib.hid (HKW.out.trans (kept_drewN w3 n4))
      go_wp2_with fail
      exact H5.out HS.out _ HKW4.out
    ·simp only [h8] at i0
     rw [splP_bad] at HSP
     have HS:Hid (S=none):=HSP.out
     clear h8
     go_wp2_with fail
     refine (HIX.out _).mono ?_
     rintro e w3 ⟨rfl,hk3⟩
     have HKW:=Lib.hid (HKR.out.trans hk3)
     clear hk3 HIX HOWN HKR
     go_wp2_with fail
     exact H5.out HS.out _ HKW.out
    ·simp only [h8] at i0
     rw [splP_open] at HSP
     clear h8
     by_cases hg0:g=0
     ·rw [if_pos hg0] at HSP
      subst hg0
      go_wp2_with fail
      refine (HIX.out _).mono ?_
      rintro e w3 ⟨rfl,hk3⟩
      have HKW:=Lib.hid (HKR.out.trans hk3)
      have HOW:=Lib.hid (own_kept HOWN.out hk3)
      clear hk3 HIX HOWN HKR
      go_wp2_with fail
      go_roundw
      case rel=>exact ⟨f,ps,G+1,G+1,r,by go_num,by go_num,rfl,HOW.out,by omega,by omega,by omega,by omega,HSP.out,HKW.out⟩
      case measure=>simp [strN]; omega
     ·rw [if_neg hg0] at HSP
      have hg0':((g:Int) == 0)=false:=by rw [beq_eq_false_iff_ne]; omega
      have HS:Hid (S=none):=HSP.out
      go_wp2_with fail
      refine (HIX.out _).mono ?_
      rintro e w3 ⟨rfl,hk3⟩
      have HKW:=Lib.hid (HKR.out.trans hk3)
      clear hk3 HIX HOWN HKR
      go_wp2_with fail
      exact H5.out HS.out _ HKW.out
    ·simp only [h8] at i0
     rw [splP_shut] at HSP
     clear h8
     by_cases hg0:g=0
     ·rw [if_pos hg0] at HSP
      subst hg0
      have HS:Hid (S=none):=HSP.out
      go_wp2_with fail
      refine (HIX.out _).mono ?_
      rintro e w3 ⟨rfl,hk3⟩
      have HKW:=Lib.hid (HKR.out.trans hk3)
      clear hk3 HIX HOWN HKR
      go_wp2_with fail
      exact H5.out HS.out _ HKW.out
     ·rw [if_neg hg0] at HSP
      have hg0':((g:Int) == 0)=false:=by rw [beq_eq_false_iff_ne]; omega
      go_wp2_with fail
      refine (HIX.out _).mono ?_
      rintro e w3 ⟨rfl,hk3⟩
      have HKW:=Lib.hid (HKR.out.trans hk3)
      have HOW:=Lib.hid (own_kept HOWN.out hk3)
      clear hk3 HIX HOWN HKR
      go_wp2_with fail
      go_roundw
      case rel=>exact ⟨f,ps,G,0,r,rfl,rfl,rfl,HOW.out,by omega,by omega,by omega,by omega,HSP.out,HKW.out⟩
      case measure=>simp [strN]; omega
end Go.Proofs.YtmcoomlkbgiboaaGreatDoor

/- free of style. Conditions: lengths. -/
set_option linter.all false
namespace Go.Proofs.YtmcoomlkbgiboaaGreatDoor
open Go.RowKit

/-- The groups of the fields that are not of a name. -/
def othG (ps:List Pc) (key:Bs):List Int:=(ps.filter fun p=>p.fld && (!(p.txt == key) && !(p.grp == 0))).map fun p=>(p.grp:Int)
def freeB (ps:List Pc) (key:Bs):Bool:=ps.any fun p=>p.fld && ((p.txt == key) && !((othG ps key).contains (p.grp:Int)))
theorem othG_snoc (ps:List Pc) (key:Bs) (p:Pc):othG (ps ++ [p]) key=othG ps key ++ (if (p.fld && (!(p.txt == key) && !(p.grp == 0)))=true then [(p.grp:Int)] else []):=by
 unfold othG
 rw [List.filter_append,List.map_append]
 by_cases h:(p.fld && (!(p.txt == key) && !(p.grp == 0)))=true
 ·rw [if_pos h]; simp [h]
 ·rw [if_neg h]; simp [h]
set_option maxRecDepth 100000 in
set_option maxHeartbeats 6400000 in
theorem sfree_any (v:Value) (ps:List Pc) (key:Bs) (w:World) (hv:Pcs w v ps) (hl:ps.length≤1000000):Calls Tryz.prog 132 #[v,.string (bs key)] w fun e w'=>e=.returned (.bool (freeB ps key))∧Kept w w':=by
 have HV:=Lib.hid hv
 obtain ⟨a,c,rfl,hc⟩:=hv.form
 clear hv
 have HTK:Hid (∀ k (hk:k<ps.length),othG (ps.take (k+1)) key=othG (ps.take k) key ++ (if (ps[k].fld && (!(ps[k].txt == key) && !(ps[k].grp == 0)))=true then [(ps[k].grp:Int)] else [])):=fun k hk=>by
  rw [List.take_succ_eq_append_getElem hk,othG_snoc]
 have HF:Hid (∀ k (hk:k<ps.length),(ps[k].fld && ((ps[k].txt == key) && !((othG ps key).contains (ps[k].grp:Int))))=true→freeB ps key=true):=fun k hk h =>
  List.any_eq_true.2 ⟨ps[k],List.getElem_mem hk,h⟩
 have HT:Hid ((∀ k (hk:k<ps.length),(ps[k].fld && ((ps[k].txt == key) && !((othG ps key).contains (ps[k].grp:Int))))=false)→freeB ps key=false):=fun h=>by
  unfold freeB
  rw [List.any_eq_false]
  intro p hp
  obtain ⟨k,hk,e⟩:=List.getElem_of_mem hp
  have:=h k hk
  rw [e] at this
  rw [this]; simp
 have HO0:Hid (othG (ps.take 0) key=[]):=rfl
 have HON:Hid (othG (ps.take ps.length) key=othG ps key):=by show _=_; rw [List.take_of_length_le (Nat.le_refl _)]
 generalize freeB ps key=R at *
 have mk:=fun w=>run_makeMap (P:=Tryz.prog) 116 w
 go_enter Tryz.func132,Tryz.ntmps132
 go_wp2_with fail
 have HM0:=Lib.hid (MapV.made w)
 have HK0:=Lib.hid (kept_alloc w (.map #[] 0))
 generalize w.alloc (.map #[] 0)=w0 at *
 obtain ⟨M,HMM⟩:∃ M,Hid (w.heap.size=M):=⟨_,rfl⟩
 have hMz:w.heap.size≤M:=by rw [HMM.out]; exact Nat.le_refl _
 rw [HMM.out] at HM0 ⊢
 go_loopw [13] (fun i wr=>∃ k:Nat,k≤ps.length∧i=.int .i64 k∧Hid (MapV wr M (setV (othG (ps.take k) key)))∧Hid (Kept w wr)) (fun i _=>ps.length - (intOf i).toNat)
 case atStart=>exact ⟨0,Nat.zero_le _,rfl,HM0.out,HK0.out⟩
 case round =>
  obtain ⟨k,hk,rfl,HM,HKR⟩:=hrel
  by_cases hlt:k<ps.length
  ·have hx:=List.getElem?_eq_getElem hlt
   obtain ⟨g,o,rfl,hg,d0,d1,d2⟩:=(HV.out.kept HKR.out).cell_of k _ hx
   have HST:=Lib.hid (HTK.out k hlt)
   generalize ps[k]=p at *
   obtain ⟨x,f,gr⟩:=p
   simp only at d0 d1 d2 HST
   have up:∀ w',MapV w' M (setV (othG (ps.take k) key))→othG (ps.take (k+1)) key=othG (ps.take k) key ++ [(gr:Int)]→(Instr.mapUpdate 116 (.map (some M)) (.int .i64 gr) (.bool true)).run Tryz.prog w'=.ok () (putV w' M (setV (othG (ps.take (k+1)) key))):=by
    intro w' hm he
    rw [he]
    cases hgv:getV (setV (othG (ps.take k) key)) (gr:Int) with
    | none =>
     rw [setV_snoc,hgv]
     exact insV (P:=Tryz.prog) Tryz.underlying116 Tryz.underlying3 w' _ _ gr (.bool true) hm hgv
    | some u =>
     have hu:u=.bool true:=by
      have:=setV_is (othG (ps.take k) key) gr
      rw [hgv] at this
      split at this
      ·exact Option.some.inj this
      ·cases this
     subst hu
     rw [setV_snoc,hgv]
     exact againV (P:=Tryz.prog) Tryz.underlying116 Tryz.underlying3 w' _ _ gr (.bool true) hm hgv
   have UP:=Lib.hid up
   clear hx up
   by_cases hc1:(f && (!(x == key) && !(gr == 0)))=true
   ·simp only [Bool.and_eq_true,Bool.not_eq_true'] at hc1
    obtain ⟨rfl,h2,h3⟩:=hc1
    rw [h2,h3,if_pos (by rfl)] at HST
    have h3':((gr:Int) == 0)=false:=by
     rw [beq_eq_false_iff_ne]; intro q
     rw [beq_eq_false_iff_ne] at h3
     omega
    have HM2:=Lib.hid (HM.out.kept (kept_alloc wr (.cells #[.string (bs x),.bool true,.int .i64 gr] 118)))
    have up:=UP.out _ HM2.out HST.out
    have HM3:=Lib.hid (putV_map _ _ (setV (othG (ps.take (k+1)) key)) HM2.out.lt)
    have HO3:=Lib.hid (putV_only (wr.alloc (.cells #[.string (bs x),.bool true,.int .i64 gr] 118)) M (setV (othG (ps.take (k+1)) key)))
    have HK3:=Lib.hid (only_kept (HKR.out.trans (kept_alloc wr (.cells #[.string (bs x),.bool true,.int .i64 gr] 118))) HO3.out hMz)
    go_wp2_with fail
    go_roundw
    case rel=>exact ⟨k+1,by omega,by go_num,HM3.out,HK3.out⟩
    case measure=>simp [intOf]; omega
   ·have HST2:Hid (othG (ps.take (k+1)) key=othG (ps.take k) key):=by
     show _=_
     rw [HST.out,if_neg hc1,List.append_nil]
    cases f with
    | false =>
     clear hc1
     have HM2:=Lib.hid (HM.out.kept (kept_alloc wr (.cells #[.string (bs x),.bool false,.int .i64 gr] 118)))
     have HK2:=Lib.hid (HKR.out.trans (kept_alloc wr (.cells #[.string (bs x),.bool false,.int .i64 gr] 118)))
     rw [← HST2.out] at HM2
     clear UP HM HKR HST
     go_wp2_with fail
     go_roundw
     case rel=>exact ⟨k+1,by omega,by go_num,HM2.out,HK2.out⟩
     case measure=>simp [intOf]; omega
    | true =>
     cases hx1:(x == key) with
     | true =>
      obtain rfl:x=key:=by simpa using hx1
      clear hc1 hx1
      have HM2:=Lib.hid (HM.out.kept (kept_alloc wr (.cells #[.string (bs x),.bool true,.int .i64 gr] 118)))
      have HK2:=Lib.hid (HKR.out.trans (kept_alloc wr (.cells #[.string (bs x),.bool true,.int .i64 gr] 118)))
      rw [← HST2.out] at HM2
      clear UP HM HKR HST
      go_wp2_with fail
      go_roundw
      case rel=>exact ⟨k+1,by omega,by go_num,HM2.out,HK2.out⟩
      case measure=>simp [intOf]; omega
     | false =>
      have h3:(gr == 0)=true:=by
       rw [hx1] at hc1
       simpa using hc1
      obtain rfl:gr=0:=by simpa using h3
      clear hc1 h3
      have HM2:=Lib.hid (HM.out.kept (kept_alloc wr (.cells #[.string (bs x),.bool true,.int .i64 (0:Nat)] 118)))
      have HK2:=Lib.hid (HKR.out.trans (kept_alloc wr (.cells #[.string (bs x),.bool true,.int .i64 (0:Nat)] 118)))
      rw [← HST2.out] at HM2
      clear UP HM HKR HST
      go_wp2_with fail
      go_roundw
      case rel=>exact ⟨k+1,by omega,by go_num,HM2.out,HK2.out⟩
      case measure=>simp [intOf]; omega
  ·obtain rfl:k=ps.length:=by omega
   rw [HON.out] at HM
   have HM1:=Lib.hid HM.out
   have HK1:=Lib.hid HKR.out
   clear HM HKR HTK HON HO0 hlt
   go_wp2_with fail
   go_loopw [36] (fun i wr=>∃ k:Nat,k≤ps.length∧i=.int .i64 k∧Hid (∀ j (hj:j<ps.length),j<k→(ps[j].fld && ((ps[j].txt == key) && !((othG ps key).contains (ps[j].grp:Int))))=false)∧Hid (MapV wr M (setV (othG ps key)))∧Hid (Kept w wr)) (fun i _=>ps.length - (intOf i).toNat)
   case atStart=>exact ⟨0,Nat.zero_le _,rfl,fun j hj h=>by omega,HM1.out,HK1.out⟩
   case round =>
    clear HM1 HK1
    obtain ⟨k,hk,rfl,HN,HM,HKR⟩:=hrel
    by_cases hlt:k<ps.length
    ·have hx:=List.getElem?_eq_getElem hlt
     obtain ⟨g,o,rfl,hg,d0,d1,d2⟩:=(HV.out.kept HKR.out).cell_of k _ hx
     have HYES:=Lib.hid (HF.out k hlt)
     have HNX:Hid ((ps[k].fld && ((ps[k].txt == key) && !((othG ps key).contains (ps[k].grp:Int))))=false→∀ j (hj:j<ps.length),j<k+1→(ps[j].fld && ((ps[j].txt == key) && !((othG ps key).contains (ps[j].grp:Int))))=false):=by
      intro h j hj hjk
      rcases Nat.lt_or_ge j k with q | q
      ·exact HN.out j hj q
      ·obtain rfl:j=k:=by omega
       exact h
     clear hx
     generalize ps[k]=p at d0 d1 d2 HYES HNX
     obtain ⟨x,f,gr⟩:=p
     simp only at d0 d1 d2 HYES HNX
     cases f with
     | false =>
      have HNO:=Lib.hid (HNX.out rfl)
      have HM2:=Lib.hid (HM.out.kept (kept_alloc wr (.cells #[.string (bs x),.bool false,.int .i64 gr] 118)))
      have HK2:=Lib.hid (HKR.out.trans (kept_alloc wr (.cells #[.string (bs x),.bool false,.int .i64 gr] 118)))
      have lk:=lookV (P:=Tryz.prog) Tryz.underlying116 Tryz.underlying3 (wr.alloc (.cells #[.string (bs x),.bool false,.int .i64 gr] 118)) M (setV (othG ps key)) (gr:Int) (.bool false) (Tryz.zeroBool _) HM2.out
      rw [setV_has] at lk
      clear HM HKR
      go_wp2_with fail
      go_roundw
      case rel=>exact ⟨k+1,by omega,by go_num,HNO.out,HM2.out,HK2.out⟩
      case measure=>simp [intOf]; omega
     | true =>
      cases hx1:(x == key) with
      | false =>
       have HNO:=Lib.hid (HNX.out (by rw [hx1]; rfl))
       have HM2:=Lib.hid (HM.out.kept (kept_alloc wr (.cells #[.string (bs x),.bool true,.int .i64 gr] 118)))
       have HK2:=Lib.hid (HKR.out.trans (kept_alloc wr (.cells #[.string (bs x),.bool true,.int .i64 gr] 118)))
       have lk:=lookV (P:=Tryz.prog) Tryz.underlying116 Tryz.underlying3 (wr.alloc (.cells #[.string (bs x),.bool true,.int .i64 gr] 118)) M (setV (othG ps key)) (gr:Int) (.bool false) (Tryz.zeroBool _) HM2.out
       rw [setV_has] at lk
       clear HM HKR
       go_wp2_with fail
       go_roundw
       case rel=>exact ⟨k+1,by omega,by go_num,HNO.out,HM2.out,HK2.out⟩
       case measure=>simp [intOf]; omega
      | true =>
       cases hct:(othG ps key).contains (gr:Int) with
       | true =>
        have HNO:=Lib.hid (HNX.out (by rw [hx1,hct]; rfl))
        obtain rfl:x=key:=by simpa using hx1
        have HM2:=Lib.hid (HM.out.kept (kept_alloc wr (.cells #[.string (bs x),.bool true,.int .i64 gr] 118)))
        have HK2:=Lib.hid (HKR.out.trans (kept_alloc wr (.cells #[.string (bs x),.bool true,.int .i64 gr] 118)))
        have lk:=lookV (P:=Tryz.prog) Tryz.underlying116 Tryz.underlying3 (wr.alloc (.cells #[.string (bs x),.bool true,.int .i64 gr] 118)) M (setV (othG ps x)) (gr:Int) (.bool false) (Tryz.zeroBool _) HM2.out
        rw [setV_has] at lk
        rw [hct] at lk
        clear hct hx1
        clear HM HKR
        go_wp2_with fail
        go_roundw
        case rel=>exact ⟨k+1,by omega,by go_num,HNO.out,HM2.out,HK2.out⟩
        case measure=>simp [intOf]; omega
       | false =>
        have HR:=Lib.hid (HYES.out (by rw [hx1,hct]; rfl))
        obtain rfl:x=key:=by simpa using hx1
        have HM2:=Lib.hid (HM.out.kept (kept_alloc wr (.cells #[.string (bs x),.bool true,.int .i64 gr] 118)))
        have HK2:=Lib.hid (HKR.out.trans (kept_alloc wr (.cells #[.string (bs x),.bool true,.int .i64 gr] 118)))
        have lk:=lookV (P:=Tryz.prog) Tryz.underlying116 Tryz.underlying3 (wr.alloc (.cells #[.string (bs x),.bool true,.int .i64 gr] 118)) M (setV (othG ps x)) (gr:Int) (.bool false) (Tryz.zeroBool _) HM2.out
        rw [setV_has,hct] at lk
        clear HM HKR hct hx1
        go_wp2_with fail
        go_ret
        exact ⟨ret_bool HR.out.symm,HK2.out⟩
    ·obtain rfl:k=ps.length:=by omega
     have HR:=Lib.hid (HT.out (fun k hk=>HN.out k hk hk))
     go_wp2_with fail
     go_ret
     exact ⟨ret_bool HR.out.symm,HKR.out⟩
end Go.Proofs.YtmcoomlkbgiboaaGreatDoor
