/- Whole numbers and texts appended in a region that draws its order. Conditions: lengths. -/
import Derived.Test.YtmcoomlkbgiboaaGreatDoorU14
import Derived.Test.YtmcoomlkbgiboaaGreatDoorU07
import Derived.Test.YtmcoomlkbgiboaaGreatDoorU05
import Derived.Deep.AppendLies
import Derived.Deep.RegionHeld3
import Derived.Deep.Upon

set_option linter.all false
namespace Go.Proofs.YtmcoomlkbgiboaaGreatDoor
open Go.RowKit

theorem Tryz.infoInt:(Tryz.prog.info? 3).map (fun i=>(i.zero,i.size,i.bytes))=some (some (.int .i64 0),1,8):=by kernel_rfl
theorem addr_at (g o j:Nat):(⟨g,o,none⟩:Addr).add j=⟨g,o+j,none⟩:=by unfold Addr.add; split <;> simp_all
theorem step_append_any {P:Program} (w:World) {ops:Array Oper} {o:Oper} {a:Act} {K:Act→World→Prop} {Q:Exit→Act→World→Prop} {E:Prop} (hgd:o.guard=none) (s x:Operand) (t:TypeId)
  (ho:o.op=.call { callee:=.builtin .append,args:=#[s,x],argTypes:=#[t,t] })
  (base:Nat) (e:TypeId) (i:TypeInfo) (z:Value) (size bytes:Nat) (ht:P.underlying t=some (.slice e)) (hi:P.info? e=some i) (hz:i.zero=some z)
  (hsize:i.size=size) (hby:i.bytes=bytes) (hzs:z.cells.size=size) (hsz:0<size)
  (v:Value) (n:Nat) (xs:List Value) (hs:a.eval s=v) (hown:w.ownsRow base e size v n xs)
  (a':Option Addr) (m c:Nat) (news:List Value) (hx:a.eval x=.slice a' m c) (hl:news.length=m * size)
  (hsrc:0<m→∃ g o2,a'=some ⟨g,o2,none⟩∧∀ j u,news[j]? = some u→w.cell? ⟨g,o2+j,none⟩=some u) (h1:∀ u∈news,u.oneCell'=true)
  (h63:n+m≤maxLen) (hbytes:(n+m) * bytes≤140737488355328) (hbase:base≤w.heap.size)
  (h:∀ v' w',w'.ownsRow base e size v' (n+m) (xs ++ news)→w.grownBy w' v.ownBlock→K (a.put o.dst v') w') :
  if Region.wanted o (yielded ops a.tmps)=true then Oper.wp P o a w K Q else E:=by
 have hw:Region.wanted o (yielded ops a.tmps)=true:=by simp [Region.wanted,hgd]
 rw [if_pos hw]
 by_cases hq:0<m
 ·obtain ⟨g,o2,rfl,hc⟩:=hsrc hq
  refine wp_append_lies w s x t ho base e i z size bytes ht hi hz hsize hby hzs hsz v n xs hs hown ⟨g,o2,none⟩ m c news hx hl (fun j u hu=>by rw [addr_at]; exact hc j u hu) h1 hq h63 hbytes hbase w.heap.size rfl ?_
  intro g' cap w' h1 h2 _ _
  exact h _ _ h1 h2
 ·obtain rfl:m=0:=by omega
  obtain rfl:news=[]:=List.length_eq_zero_iff.1 (by omega)
  have hown':=hown
  obtain ⟨a2,c2,rfl,hle,_,_⟩:=own_cap hown
  have hsrc:Src P i.size t (.slice a' 0 c) 0 [] w:=by
   refine ⟨.inl ⟨_,ht⟩,fun w'=>?_,?_,?_,by simp,by simp⟩
   ·simp [Builtin.lenOf]
   ·cases a' <;> simp [Builtin.firstCells,loadCells,loadCellsFrom]
   ·cases a' <;> simp [Builtin.firstCells,loadCells,loadCellsFrom]
  have hr:=run_append_nothing (P:=P) w t t o.type e i ht hi a2 n c2 hle (.slice a' 0 c) hsrc
  unfold Oper.wp execOp
  simp only [ho,resolve,invoke,builtin,Sem.run_bind,Sem.run_pure,Result.andThen_ok,List.map_toArray,List.map_cons,List.map_nil,hs,hx]
  rw [hr]
  refine h _ _ ?_ (World.grownBy.refl _ _)
  rw [List.append_nil]; exact hown'
theorem strCells_one (xs:List Bs):∀ u∈strCells xs,u.oneCell'=true:=by
 intro u hu
 unfold strCells at hu
 rw [List.mem_map] at hu
 obtain ⟨x,_,rfl⟩:=hu; rfl
theorem strCells_back (xs:List Bs) (j:Nat) (u:Value) (h:(strCells xs)[j]? = some u):∃ x,xs[j]? = some x∧u=.string (bs x):=by
 unfold strCells at h
 rw [List.getElem?_map] at h
 cases hx:xs[j]? with
 | none=>rw [hx] at h; cases h
 | some x=>rw [hx] at h; exact ⟨x,rfl,by simpa using h.symm⟩
set_option maxRecDepth 100000 in
theorem step_append_strs (w:World) {ops:Array Oper} {o:Oper} {a:Act} {K:Act→World→Prop} {Q:Exit→Act→World→Prop} {E:Prop} (hgd:o.guard=none) (s x:Operand)
  (ho:o.op=.call { callee:=.builtin .append,args:=#[s,x],argTypes:=#[29,29] })
  (base:Nat) (v:Value) (ps:List Bs) (hs:a.eval s=v) (hown:w.ownsRow base 9 1 v ps.length (strCells ps)) (u:Value) (qs:List Bs) (hx:a.eval x=u) (hu:Strs w u qs)
  (hb:ps.length+qs.length≤5000000) (hbase:base≤w.heap.size)
  (h:∀ v' w',w'.ownsRow base 9 1 v' (ps ++ qs).length (strCells (ps ++ qs))→w.grownBy w' v.ownBlock→K (a.put o.dst v') w') :
  if Region.wanted o (yielded ops a.tmps)=true then Oper.wp Tryz.prog o a w K Q else E:=by
 obtain ⟨i0,hi,hz0,hz1,hz2⟩:=info_parts Tryz.infoStr
 obtain ⟨a',c',rfl,hc,h3⟩:=hu
 refine step_append_any w hgd s x 29 ho base 9 i0 (.string ⟨#[]⟩) 1 16 Tryz.underlying29 hi hz0 hz1 hz2 rfl (by decide) v ps.length (strCells ps) hs hown a' qs.length c' (strCells qs) hx (by simp [strCells_length]) (fun hq=>?_) (strCells_one qs) (by unfold maxLen; omega) (by omega) hbase (fun v' w' h1 h2=>h v' w' ?_ h2)
 ·obtain ⟨g,o2,rfl,_,hcell⟩:=h3 hq
  refine ⟨g,o2,rfl,fun j u hu=>?_⟩
  obtain ⟨y,hy,rfl⟩:=strCells_back qs j u hu
  exact hcell j y hy
 ·rw [List.length_append,show strCells (ps ++ qs)=strCells ps ++ strCells qs from by simp [strCells]]; exact h1
end Go.Proofs.YtmcoomlkbgiboaaGreatDoor

/- Pieces of templates in memory. No condition. -/
set_option linter.all false
namespace Go.Proofs.YtmcoomlkbgiboaaGreatDoor
open Go.RowKit

def pcC (ps:List Pc):List Value:=ps.flatMap fun q=>[.string (bs q.txt),.bool q.fld,.int .i64 (q.grp:Int)]
theorem pcC_snoc (ps:List Pc) (q:Pc):pcC (ps ++ [q])=pcC ps ++ [.string (bs q.txt),.bool q.fld,.int .i64 (q.grp:Int)]:=by simp [pcC]
theorem pcC_at (ps:List Pc) (j:Nat) (q:Pc) (h:ps[j]? = some q):(pcC ps)[j * 3]? = some (.string (bs q.txt))∧(pcC ps)[j * 3+1]? = some (.bool q.fld)∧(pcC ps)[j * 3+2]? = some (.int .i64 (q.grp:Int)):=by
 induction ps generalizing j with
 | nil=>cases h
 | cons p ps ih =>
  have e:pcC (p :: ps)=[.string (bs p.txt),.bool p.fld,.int .i64 (p.grp:Int)] ++ pcC ps:=by simp [pcC]
  rw [e]
  cases j with
  | zero =>
   simp at h; subst h
   exact ⟨rfl,rfl,rfl⟩
  | succ j =>
   obtain ⟨h0,h1,h2⟩:=ih j (by simpa using h)
   rw [List.getElem?_append_right (by simp; omega),List.getElem?_append_right (by simp; omega),List.getElem?_append_right (by simp; omega)]
   simp only [List.length_cons,List.length_nil]
   rw [show (j+1) * 3 - (0+1+1+1)=j * 3 by omega,show (j+1) * 3+1 - (0+1+1+1)=j * 3+1 by omega,show (j+1) * 3+2 - (0+1+1+1)=j * 3+2 by omega]
   exact ⟨h0,h1,h2⟩
/-- The slice value v reads in w as the pieces ps. -/
def Pcs (w:World) (v:Value) (ps:List Pc):Prop :=
 ∃ a c,v=.slice a ps.length c∧ps.length≤c∧(0<ps.length→∃ g o,a=some ⟨g,o,none⟩∧g<w.heap.size∧∀ j q,ps[j]? = some q →
  w.cell? ⟨g,o+j * 3,none⟩=some (.string (bs q.txt))∧w.cell? ⟨g,o+j * 3+1,none⟩=some (.bool q.fld)∧w.cell? ⟨g,o+j * 3+2,none⟩=some (.int .i64 (q.grp:Int)))
theorem Pcs.kept {w w':World} {v:Value} {ps:List Pc} (h:Pcs w v ps) (k:Kept w w'):Pcs w' v ps:=by
 obtain ⟨a,c,hv,hc,h3⟩:=h
 refine ⟨a,c,hv,hc,fun q=>?_⟩
 obtain ⟨g,o,ha,hg,hcell⟩:=h3 q
 refine ⟨g,o,ha,Nat.lt_of_lt_of_le hg k.size,fun j x hx=>?_⟩
 obtain ⟨c0,c1,c2⟩:=hcell j x hx
 exact ⟨(k.cell (p:=⟨g,o+j * 3,none⟩) hg).trans c0,(k.cell (p:=⟨g,o+j * 3+1,none⟩) hg).trans c1,(k.cell (p:=⟨g,o+j * 3+2,none⟩) hg).trans c2⟩
theorem Pcs.own {w:World} {base:Nat} {e:TypeId} {v:Value} {ps:List Pc} (h:w.ownsRow base e 3 v ps.length (pcC ps)):Pcs w v ps:=by
 obtain ⟨a,c,hv,hc,_,h3⟩:=own_cap h
 refine ⟨a,c,hv,hc,fun q=>?_⟩
 obtain ⟨g,ha,_,hg,hcell⟩:=h3 q
 refine ⟨g,0,ha,hg,fun j x hx=>?_⟩
 obtain ⟨c0,c1,c2⟩:=pcC_at ps j x hx
 simp only [Nat.zero_add]
 exact ⟨hcell _ _ c0,hcell _ _ c1,hcell _ _ c2⟩
theorem Pcs.nil (w:World):Pcs w (.slice none 0 0) []:=⟨none,0,rfl,Nat.le_refl _,fun q=>absurd q (by simp)⟩
theorem Pcs.form {w:World} {v:Value} {ps:List Pc} (h:Pcs w v ps):∃ a c,v=.slice a ps.length c∧ps.length≤c:=by
 obtain ⟨a,c,hv,hc,_⟩:=h; exact ⟨a,c,hv,hc⟩
theorem Pcs.cell_of {w:World} {a:Option Addr} {n c:Nat} {ps:List Pc} (h:Pcs w (.slice a n c) ps) (k:Nat) (q:Pc) (hx:ps[k]? = some q) :
  ∃ g o,a=some ⟨g,o,none⟩∧g<w.heap.size∧w.cell? ⟨g,o+k * 3,none⟩=some (.string (bs q.txt))∧w.cell? ⟨g,o+k * 3+1,none⟩=some (.bool q.fld)∧w.cell? ⟨g,o+k * 3+2,none⟩=some (.int .i64 (q.grp:Int)):=by
 obtain ⟨a',c',hv,hc,h3⟩:=h
 obtain ⟨rfl,rfl,rfl⟩:=Value.slice.inj hv
 obtain ⟨hk,_⟩:=List.getElem?_eq_some_iff.1 hx
 obtain ⟨g,o,ha,hg,hcell⟩:=h3 (by omega)
 obtain ⟨c0,c1,c2⟩:=hcell k q hx
 exact ⟨g,o,ha,hg,c0,c1,c2⟩
theorem Tryz.infoPc:(Tryz.prog.info? 118).map (fun i=>(i.zero,i.size,i.bytes))=some (some (.agg #[.string ⟨#[]⟩,.bool false,.int .i64 0]),3,32):=by kernel_rfl
set_option maxRecDepth 100000 in
/-- A piece that lies in a block of its own, appended in a plain region. -/
theorem wpList_append_pc (w:World) {ops:Array Oper} {rest:List Oper} {o:Oper} {a:Act} {Q:Exit→Act→World→Prop} (hgd:o.guard=none) (s x:Operand)
  (ho:o.op=.call { callee:=.builtin .append,args:=#[s,x],argTypes:=#[111,111] })
  (base:Nat) (v:Value) (ps:List Pc) (hs:a.eval s=v) (hown:w.ownsRow base 118 3 v ps.length (pcC ps)) (q:Pc) (g:Nat) (hx:a.eval x=.slice (some ⟨g,0,none⟩) 1 1)
  (hb:Blk w g 118 #[.string (bs q.txt),.bool q.fld,.int .i64 (q.grp:Int)]) (hl:ps.length≤1000000) (hbase:base≤w.heap.size)
  (h:∀ v' w',w'.ownsRow base 118 3 v' (ps ++ [q]).length (pcC (ps ++ [q]))→w.grownBy w' v.ownBlock→wpList Tryz.prog ops Q rest (a.put o.dst v') w') :
  wpList Tryz.prog ops Q (o :: rest) a w:=by
 obtain ⟨i0,hi,hz0,hz1,hz2⟩:=info_parts Tryz.infoPc
 refine wpList_append_lies w hgd s x 111 ho base 118 i0 (.agg #[.string ⟨#[]⟩,.bool false,.int .i64 0]) 3 32 Tryz.underlying111 hi hz0 hz1 hz2 rfl (by decide) v ps.length (pcC ps) hs hown ⟨g,0,none⟩ 1 1 [.string (bs q.txt),.bool q.fld,.int .i64 (q.grp:Int)] hx rfl (fun j u hu=>?_) (fun u hu=>?_) (by decide) (by unfold maxLen; omega) (by omega) hbase w.heap.size rfl (fun g' cap w' h1 h2 _ _=>h _ w' ?_ h2)
 ·rw [addr_at,Nat.zero_add]
  match j with
  | 0=>cases hu; exact hb.cell 0 _ rfl
  | 1=>cases hu; exact hb.cell 1 _ rfl
  | 2=>cases hu; exact hb.cell 2 _ rfl
  | j+3=>simp at hu
 ·simp at hu
  rcases hu with rfl | rfl | rfl <;> rfl
 ·rw [pcC_snoc,List.length_append]; exact h1
end Go.Proofs.YtmcoomlkbgiboaaGreatDoor

/- split of style. Conditions: lengths. -/
set_option linter.all false
namespace Go.Proofs.YtmcoomlkbgiboaaGreatDoor
open Go.RowKit

def strN:Value→Nat
 | .string s=>s.size
 | _=>0
def SplitP (t:Bs) (w:World) (e:Ending) (w':World):Prop:=∃ v,e=.returned (.tuple #[v,.int .i64 (splE t)])∧Pcs w' v (splL t)∧Kept w w'
theorem SplitP.bad {t:Bs} {w w':World} (h:splE t≠0) (k:Kept w w'):SplitP t w (.returned (.tuple #[.slice none 0 0,.int .i64 (splE t)])) w' :=
 ⟨_,rfl,by unfold splL; rw [if_neg h]; exact Pcs.nil _,k⟩
theorem splE_form {t:Bs} (h:lnB t=true) (hs:splT t=none):splE t=5:=by unfold splE; rw [h,hs]; rfl
theorem splE_ok {t:Bs} {l:List Pc} (h:lnB t=true) (hs:splT t=some l):splE t=0∧splL t=l:=by
 have e:splE t=0:=by unfold splE; rw [h,hs]; rfl
 exact ⟨e,by unfold splL; rw [if_pos e,hs]; rfl⟩
theorem splE_text {t:Bs} (h:lnB t=false):splE t=17:=by unfold splE; rw [h]; rfl
theorem SplitP.five {t:Bs} {w w':World} (hl:lnB t=true) (hs:splT t=none) (k:Kept w w'):SplitP t w (.returned (.tuple #[.slice none 0 0,.int .i64 5])) w':=by
 have e:=splE_form hl hs
 have h:splE t≠0:=by rw [e]; decide
 have:=SplitP.bad h k
 rwa [e] at this
theorem ascii_sp:Ascii spSet:=by
 intro b hb
 unfold spSet at hb
 simp at hb
 rcases hb with rfl | rfl | rfl | rfl <;> decide
theorem map_pre (ps:List Pc) (q:Pc) (o:Option (List Pc)):(o.map fun l=>q :: l).map (ps ++ ·)=o.map ((ps ++ [q]) ++ ·):=by
 cases o <;> simp
set_option maxRecDepth 100000 in
set_option maxHeartbeats 6400000 in
theorem ssplit_any (t:Bs) (w:World) (hg:Gnd w) (ht:t.length≤100000):Calls Tryz.prog 60 #[.string (bs t)] w (SplitP t w):=by
 have HG:=Lib.hid hg
 have HLN:=Lib.hid (fun w=>sline_any t w (by omega))
 clear hg
 by_cases hline:lnB t=true
 case neg =>
  have hline':lnB t=false:=by simpa using hline
  rw [hline'] at HLN
  have HB:Hid (∀ w',Kept w w'→SplitP t w (.returned (.tuple #[.slice none 0 0,.int .i64 17])) w'):=fun w' k=>by
   have h:=SplitP.bad (t:=t) (w:=w) (w':=w') (by rw [splE_text hline']; decide) k
   rwa [splE_text hline'] at h
  generalize hP:SplitP t w=P at *
  clear hP
  go_enter Tryz.func60,Tryz.ntmps60
  go_wp2_with fail
  refine (HLN.out _).mono ?_
  rintro e w1 ⟨rfl,hk1⟩
  have HK1:=Lib.hid hk1
  clear hk1
  go_wp2_with fail
  exact HB.out _ HK1.out
 rw [hline] at HLN
 have H5:Hid (splT t=none→∀ w',Kept w w'→SplitP t w (.returned (.tuple #[.slice none 0 0,.int .i64 5])) w'):=fun h w' k=>SplitP.five hline h k
 have HOK:Hid (∀ l,splT t=some l→∀ w' v,Pcs w' v l→Kept w w'→SplitP t w (.returned (.tuple #[v,.int .i64 0])) w'):=fun l h w' v hp k=>by
  obtain ⟨e1,e2⟩:=splE_ok hline h
  refine ⟨v,by rw [e1],by rw [e2]; exact hp,k⟩
 have H0:Hid (splT t=(splP (t.length+1) t 0 0).map (([]:List Pc) ++ ·)):=by
  show _=_
  unfold splT
  cases splP (t.length+1) t 0 0 <;> simp
 generalize hP:SplitP t w=P at *
 generalize splT t=S at *
 clear hP hline
 go_enter Tryz.func60,Tryz.ntmps60
 go_wp2_with fail
 refine (HLN.out _).mono ?_
 rintro e w1 ⟨rfl,hk1⟩
 have HK1:=Lib.hid hk1
 clear hk1 HLN
 go_wp2_with fail
 go_loopw [4,5,6,7] (fun ov gv hv rv wr=>∃ (f:Nat) (ps:List Pc) (G g:Nat) (r:Bs),gv=.int .i64 G∧hv=.int .i64 g∧rv=.string (bs r)∧Hid (wr.ownsRow w.heap.size 118 3 ov ps.length (pcC ps))∧r.length<f∧ps.length+r.length≤t.length∧G+r.length≤t.length∧g≤G∧Hid (S=(splP f r G g).map (ps ++ ·))∧Hid (Kept w wr)) (fun _ _ _ rv _=>strN rv)
 case atStart=>exact ⟨t.length+1,[],0,0,t,rfl,rfl,rfl,World.ownsRow_nil _ _ _ _,by omega,by simp,by omega,by omega,H0.out,HK1.out⟩
 case round =>
  obtain ⟨f,ps,G,g,r,rfl,rfl,rfl,HOWN,hf,hps,hG,hgG,HSP,HKR⟩:=hrel
  obtain ⟨f,rfl⟩:∃ f',f=f'+1:=⟨f - 1,by omega⟩
  cases r with
  | nil =>
   rw [splP_end] at HSP
   by_cases hg0:g=0
   ·subst hg0
    have HS:Hid (S=some ps):=by
     show _=_
     rw [HSP.out,if_pos rfl]; simp
    have HP:=Lib.hid (Pcs.own HOWN.out)
    go_wp2_with fail
    exact HOK.out ps HS.out _ _ HP.out HKR.out
   ·have HS:Hid (S=none):=by
     show _=_
     rw [HSP.out,if_neg hg0]; rfl
    have hg0':((g:Int) == 0)=false:=by rw [beq_eq_false_iff_ne]; omega
    go_wp2_with fail
    exact H5.out HS.out _ HKR.out
  | cons b r =>
   have hrl:r.length+1=(b :: r).length:=rfl
   obtain ⟨L,HLL⟩:∃ L,Hid (b :: r=L):=⟨_,rfl⟩
   have hLL:=HLL.out
   rw [hLL] at hrl hf hps hG
   have hne:(L == ([]:Bs))=false:=by rw [← hLL]; rfl
   have hLp:0<L.length:=by omega
   have HIX:=Lib.hid (fun w=>iidx_any L spSet w ascii_sp (by decide) (by decide) (by omega))
   unfold IdxPost at HIX
   cases hin:inSet spSet b with
   | false =>
    rw [splP_run _ _ _ hin,hLL,map_pre] at HSP
    have hrun:=runN_pos (r:=r) hin
    rw [hLL] at hrun ⊢
    clear HLL hLL hin
    rcases hrun with ⟨hi,hn⟩ | ⟨k,hi,hn,hk0,hkl⟩
    ·rw [hi] at HIX
     rw [hn,hrl] at HSP
     obtain ⟨X,HXX⟩:∃ X,Hid (L.take L.length=X):=⟨_,rfl⟩
     obtain ⟨Y,HYY⟩:∃ Y,Hid (L.drop L.length=Y):=⟨_,rfl⟩
     have hyl:Y.length=0:=by rw [← HYY.out]; simp
     have hxl:X.length≤L.length:=by rw [← HXX.out]; simp
     have u1:=run_upto (P:=Tryz.prog) (t:=9) Tryz.underlying9 L L.length (Nat.le_refl _) (L.length:Int) rfl X HXX.out
     have u2:=run_from (P:=Tryz.prog) (t:=9) Tryz.underlying9 L L.length (Nat.le_refl _) (L.length:Int) rfl Y HYY.out
     rw [HXX.out,HYY.out] at HSP
     clear hi hn
     go_wp2_with fail
     refine (HIX.out _).mono ?_
     rintro e w3 ⟨rfl,hk3⟩
     have HKW:=Lib.hid (HKR.out.trans hk3)
     have HOW:=Lib.hid (own_kept HOWN.out hk3)
     clear hk3 HIX HOWN HKR
     have HBQ:=Lib.hid (Blk.new w3 118 #[.string (bs X),.bool false,.int .i64 (g:Int)])
     have hszW:w.heap.size≤w3.heap.size:=HKW.out.size
     go_wp2_with (at_builtin; refine wpList_append_pc _ rfl _ _ rfl w.heap.size _ ps rfl (HOW.out.alloc _) ⟨X,false,g⟩ w3.heap.size rfl HBQ.out (by omega) (by simp; omega) ?_; intro v5 w5 hown5 hgrow5; rw [List.length_append,List.length_singleton] at hown5; have HO5:=Lib.hid hown5; have HK5:=Lib.hid ((HKW.out.trans (kept_alloc w3 _)).trans' (grown_below (HOW.out.alloc _) hgrow5 (by simp; omega))); obtain ⟨a5,c5,rfl,-,-,-⟩:=own_cap hown5; clear hown5 hgrow5)
     go_roundw
     case rel=>exact ⟨f,ps ++ [Pc.mk X false g],G,g,Y,rfl,rfl,rfl,(by show World.ownsRow _ _ _ _ _ _ _; rw [List.length_append]; exact HO5.out),by omega,by rw [List.length_append,List.length_singleton]; omega,by omega,by omega,HSP.out,HK5.out⟩
     case measure=>simp [strN]; omega
    ·rw [hi] at HIX
     rw [hn] at HSP
     obtain ⟨X,HXX⟩:∃ X,Hid (L.take k=X):=⟨_,rfl⟩
     obtain ⟨Y,HYY⟩:∃ Y,Hid (L.drop k=Y):=⟨_,rfl⟩
     have hyl:Y.length=L.length - k:=by rw [← HYY.out]; simp
     have hxl:X.length≤L.length:=by rw [← HXX.out,List.length_take]; omega
     have u1:=run_upto (P:=Tryz.prog) (t:=9) Tryz.underlying9 L k (by omega) (k:Int) rfl X HXX.out
     have u2:=run_from (P:=Tryz.prog) (t:=9) Tryz.underlying9 L k (by omega) (k:Int) rfl Y HYY.out
     have hk1:((k:Int) == 0)=false:=by rw [beq_eq_false_iff_ne]; omega
     have hk2:¬ (k:Int)<0:=by omega
     rw [HXX.out,HYY.out] at HSP
     clear hi hn
     go_wp2_with fail
     refine (HIX.out _).mono ?_
     rintro e w3 ⟨rfl,hk3⟩
     have HKW:=Lib.hid (HKR.out.trans hk3)
     have HOW:=Lib.hid (own_kept HOWN.out hk3)
     clear hk3 HIX HOWN HKR
     have HBQ:=Lib.hid (Blk.new w3 118 #[.string (bs X),.bool false,.int .i64 (g:Int)])
     have hszW:w.heap.size≤w3.heap.size:=HKW.out.size
     go_wp2_with (at_builtin; refine wpList_append_pc _ rfl _ _ rfl w.heap.size _ ps rfl (HOW.out.alloc _) ⟨X,false,g⟩ w3.heap.size rfl HBQ.out (by omega) (by simp; omega) ?_; intro v5 w5 hown5 hgrow5; rw [List.length_append,List.length_singleton] at hown5; have HO5:=Lib.hid hown5; have HK5:=Lib.hid ((HKW.out.trans (kept_alloc w3 _)).trans' (grown_below (HOW.out.alloc _) hgrow5 (by simp; omega))); obtain ⟨a5,c5,rfl,-,-,-⟩:=own_cap hown5; clear hown5 hgrow5)
     go_roundw
     case rel=>exact ⟨f,ps ++ [Pc.mk X false g],G,g,Y,rfl,rfl,rfl,(by show World.ownsRow _ _ _ _ _ _ _; rw [List.length_append]; exact HO5.out),by omega,by rw [List.length_append,List.length_singleton]; omega,by omega,by omega,HSP.out,HK5.out⟩
     case measure=>simp [strN]; omega
   | true =>
    have hz:Lib.indexAny L spSet=0:=by rw [← hLL]; exact runN_zero hin
    rw [hz] at HIX
    have i0:=run_ix (P:=Tryz.prog) (t:=9) Tryz.underlying9 L 0 hLp 0 rfl
    have h8:at8 L 0=(b.toNat:Int):=by rw [← hLL]; rfl
    have u1:=run_from (P:=Tryz.prog) (t:=9) Tryz.underlying9 L 1 (by omega) 1 rfl r (by rw [← hLL]; rfl)
    have hb:=spSet_cases hin
    clear hin hz
    rw [hLL]
    clear HLL hLL
    rcases hb with rfl | rfl | rfl | rfl
    ·simp only [h8] at i0
     rw [splP_fld] at HSP
     have HCUT:=Lib.hid (fun w h=>cut_any r 125 w h (by omega))
     have HSMA:=Lib.hid (fun x w (h:x.length≤1000000000)=>ssmall_any x [] 20 w h)
     clear h8
     go_wp2_with fail
     refine (HIX.out _).mono ?_
     rintro e w3 ⟨rfl,hk3⟩
     have HKW:=Lib.hid (HKR.out.trans hk3)
     have HOW:=Lib.hid (own_kept HOWN.out hk3)
     have HGW:=Lib.hid (HG.out.kept HKW.out)
     clear hk3 HIX HOWN HKR
     by_cases hbf:before 125 r<r.length
     ·simp only [if_pos hbf] at HCUT
      have hrl1:(r.take (before 125 r)).length≤r.length:=by rw [List.length_take]; omega
      have hrl2:(r.drop (before 125 r+1)).length≤r.length - 1:=by rw [List.length_drop]; omega
      generalize r.take (before 125 r)=X at *
      generalize r.drop (before 125 r+1)=Y at *
      have HSMB:=Lib.hid (fun w=>HSMA.out X w (by omega))
      go_wp2_with fail
      refine (HCUT.out _ HGW.out).mono ?_
      rintro e w4 ⟨rfl,n4,rfl⟩
      have HKW4:=Lib.hid (HKW.out.trans (kept_drewN w3 n4))
      have HOW4:=Lib.hid (own_kept HOW.out (kept_drewN w3 n4))
      generalize w3.drewN n4=w4 at *
      go_wp2_with fail
      refine (HSMB.out _).mono ?_
      rintro e w5 ⟨rfl,hk5⟩
      have HKW:=Lib.hid (HKW4.out.trans hk5)
      have HOW:=Lib.hid (own_kept HOW4.out hk5)
      clear hk5 HKW4 HOW4
      cases hsb:smallB X 20 [] with
      | false =>
       have HS:Hid (S=none):=by
        show _=_
        rw [HSP.out,hsb,if_neg (by simp)]; rfl
       clear hsb
       go_wp2_with fail
       exact H5.out HS.out _ HKW.out
      | true =>
       rw [hsb,if_pos ⟨hbf,rfl⟩,map_pre] at HSP
       clear hsb HSMA HSMB HCUT
       have HBQ:=Lib.hid (Blk.new w5 118 #[.string (bs X),.bool true,.int .i64 (g:Int)])
       have hszW:w.heap.size≤w5.heap.size:=HKW.out.size
       go_wp2_with (at_builtin; refine wpList_append_pc _ rfl _ _ rfl w.heap.size _ ps rfl (HOW.out.alloc _) ⟨X,true,g⟩ w5.heap.size rfl HBQ.out (by omega) (by simp; omega) ?_; intro v5 w9 hown5 hgrow9; rw [List.length_append,List.length_singleton] at hown5; have HO5:=Lib.hid hown5; have HK5:=Lib.hid ((HKW.out.trans (kept_alloc w5 _)).trans' (grown_below (HOW.out.alloc _) hgrow9 (by simp; omega))); obtain ⟨a5,c5,rfl,-,-,-⟩:=own_cap hown5; clear hown5 hgrow9)
       go_roundw
       case rel=>exact ⟨f,ps ++ [Pc.mk X true g],G,g,Y,rfl,rfl,rfl,(by show World.ownsRow _ _ _ _ _ _ _; rw [List.length_append]; exact HO5.out),by omega,by rw [List.length_append,List.length_singleton]; omega,by omega,by omega,HSP.out,HK5.out⟩
       case measure=>simp [strN]; omega
     ·simp only [if_neg hbf] at HCUT
      have HS:Hid (S=none):=by
       show _=_
       rw [HSP.out,if_neg (fun q=>hbf q.1)]; rfl
      go_wp2_with fail
      refine (HCUT.out _ HGW.out).mono ?_
      rintro e w4 ⟨rfl,n4,rfl⟩
      have HKW4:=Lib.hid (HKW.out.trans (kept_drewN w3 n4))
      go_wp2_with fail
      exact H5.out HS.out _ HKW4.out
    ·simp only [h8] at i0
     rw [splP_bad] at HSP
     have HS:Hid (S=none):=HSP.out
     clear h8
     go_wp2_with fail
     refine (HIX.out _).mono ?_
     rintro e w3 ⟨rfl,hk3⟩
     have HKW:=Lib.hid (HKR.out.trans hk3)
     clear hk3 HIX HOWN HKR
     go_wp2_with fail
     exact H5.out HS.out _ HKW.out
    ·simp only [h8] at i0
     rw [splP_open] at HSP
     clear h8
     by_cases hg0:g=0
     ·rw [if_pos hg0] at HSP
      subst hg0
      go_wp2_with fail
      refine (HIX.out _).mono ?_
      rintro e w3 ⟨rfl,hk3⟩
      have HKW:=Lib.hid (HKR.out.trans hk3)
      have HOW:=Lib.hid (own_kept HOWN.out hk3)
      clear hk3 HIX HOWN HKR
      go_wp2_with fail
      go_roundw
      case rel=>exact ⟨f,ps,G+1,G+1,r,by go_num,by go_num,rfl,HOW.out,by omega,by omega,by omega,by omega,HSP.out,HKW.out⟩
      case measure=>simp [strN]; omega
     ·rw [if_neg hg0] at HSP
      have hg0':((g:Int) == 0)=false:=by rw [beq_eq_false_iff_ne]; omega
      have HS:Hid (S=none):=HSP.out
      go_wp2_with fail
      refine (HIX.out _).mono ?_
      rintro e w3 ⟨rfl,hk3⟩
      have HKW:=Lib.hid (HKR.out.trans hk3)
      clear hk3 HIX HOWN HKR
      go_wp2_with fail
      exact H5.out HS.out _ HKW.out
    ·simp only [h8] at i0
     rw [splP_shut] at HSP
     clear h8
     by_cases hg0:g=0
     ·rw [if_pos hg0] at HSP
      subst hg0
      have HS:Hid (S=none):=HSP.out
      go_wp2_with fail
      refine (HIX.out _).mono ?_
      rintro e w3 ⟨rfl,hk3⟩
      have HKW:=Lib.hid (HKR.out.trans hk3)
      clear hk3 HIX HOWN HKR
      go_wp2_with fail
      exact H5.out HS.out _ HKW.out
     ·rw [if_neg hg0] at HSP
      have hg0':((g:Int) == 0)=false:=by rw [beq_eq_false_iff_ne]; omega
      go_wp2_with fail
      refine (HIX.out _).mono ?_
      rintro e w3 ⟨rfl,hk3⟩
      have HKW:=Lib.hid (HKR.out.trans hk3)
      have HOW:=Lib.hid (own_kept HOWN.out hk3)
      clear hk3 HIX HOWN HKR
      go_wp2_with fail
      go_roundw
      case rel=>exact ⟨f,ps,G,0,r,rfl,rfl,rfl,HOW.out,by omega,by omega,by omega,by omega,HSP.out,HKW.out⟩
      case measure=>simp [strN]; omega
end Go.Proofs.YtmcoomlkbgiboaaGreatDoor

/- A range over a text beside a row of the call's own. No condition. -/
set_option linter.all false
namespace Go.Proofs.YtmcoomlkbgiboaaGreatDoor
open Go.RowKit

theorem own_iter_ne {w:World} {base:Nat} {e:TypeId} {size:Nat} {v:Value} {n:Nat} {xs:List Value} {k p:Nat} {s:ByteArray} (h:w.ownsRow base e size v n xs) (hit:w.heap[k]? = some (.stringIter s p)):some k≠v.ownBlock:=by
 rcases h.2 with ⟨rfl,_⟩ | ⟨g,cap,cur,rfl,_,hh,_⟩
 ·simp [Value.ownBlock]
 ·intro q
  have:k=g:=by simpa [Value.ownBlock] using q
  subst this
  rw [hit] at hh
  cases hh
theorem only_iterAt (w:World) (k:Nat) (s:ByteArray) (p:Nat):Only (fun i=>i=k) w (w.iterAt k s p) :=
 ⟨rfl,rfl,rfl,by simp [World.iterAt],fun i _ hs=>by simp [World.iterAt,Array.getElem?_setIfInBounds,Ne.symm hs]⟩
theorem own_iterAtC {w:World} {base:Nat} {e:TypeId} {size:Nat} {v:Value} {n:Nat} {xs:List Value} {k p:Nat} {s:ByteArray} (h:w.ownsRow base e size v n xs) (hit:w.heap[k]? = some (.stringIter s p)) (s':ByteArray) (p':Nat):(w.iterAt k s' p').ownsRow base e size v n xs :=
 (only_iterAt w k s' p').own h (fun g hg e=>own_iter_ne h hit (by rw [hg,e]))
end Go.Proofs.YtmcoomlkbgiboaaGreatDoor
