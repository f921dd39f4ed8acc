/- locale.Collation: the collation of a language. No condition but the listed variable. -/
import Derived.Test.YtmcoomlkbgiboaaGreatDoorK23
import Derived.Test.YtmcoomlkbgiboaaGreatDoorK29
import Derived.Test.YtmcoomlkbgiboaaGreatDoorK20
import Derived.Test.YtmcoomlkbgiboaaGreatDoorK27
import Derived.Test.YtmcoomlkbgiboaaGreatDoorK08
import Derived.Test.YtmcoomlkbgiboaaGreatDoorK10
import Derived.Test.YtmcoomlkbgiboaaGreatDoorK02
import Derived.Test.YtmcoomlkbgiboaaGreatDoorK04
import Derived.Test.YtmcoomlkbgiboaaGreatDoorK11
import Derived.Test.YtmcoomlkbgiboaaGreatDoorK18
import Derived.Test.YtmcoomlkbgiboaaGreatDoorK25
import Derived.Test.YtmcoomlkbgiboaaGreatDoorK15
import Derived.BigQuiet

set_option linter.all false
namespace Go.Proofs.YtmcoomlkbgiboaaGreatDoor
open Go.RowKit

theorem runes_let:∀ k:Nat,k<26→runesL [97+(k:Int),65+(k:Int)]=[UInt8.ofNat (97+k),UInt8.ofNat (65+k)]:=by decide +kernel
theorem Tryz.sizeCo:(Tryz.prog.info? 88).map (fun x=>x.size)=some 3:=by kernel_rfl
theorem wpList_append_s1 (w:World) {ops:Array Oper} {rest:List Oper} {o:Oper} {a:Act} {Q:Exit→Act→World→Prop} (hgd:o.guard=none) (s x:Operand)
  (ho:o.op=.call { callee:=.builtin .append,args:=#[s,x],argTypes:=#[29,29] })
  (base:Nat) (v:Value) (ps:List Bs) (hs:a.eval s=v) (hown:w.ownsRow base 9 1 v ps.length (strCells ps)) (q:Bs) (g:Nat) (hx:a.eval x=.slice (some ⟨g,0,none⟩) 1 1)
  (hb:Blk w g 9 #[.string (bs q)]) (hl:ps.length≤1000000) (hbase:base≤w.heap.size)
  (h:∀ v' w',w'.ownsRow base 9 1 v' (ps ++ [q]).length (strCells (ps ++ [q]))→w.grownBy w' v.ownBlock→wpList Tryz.prog ops Q rest (a.put o.dst v') w') :
  wpList Tryz.prog ops Q (o :: rest) a w:=by
 obtain ⟨i0,hi,hz0,hz1,hz2⟩:=info_parts Tryz.infoStr
 refine wpList_append_lies w hgd s x 29 ho base 9 i0 (.string ⟨#[]⟩) 1 16 Tryz.underlying29 hi hz0 hz1 hz2 rfl (by decide) v ps.length (strCells ps) hs hown ⟨g,0,none⟩ 1 1 [.string (bs q)] hx rfl (fun j u hu=>?_) (fun u hu=>?_) (by decide) (by unfold maxLen; omega) (by omega) hbase w.heap.size rfl (fun g' cap w' h1 h2 _ _=>h _ w' ?_ h2)
 ·rw [addr_plus,Nat.zero_add]
  exact hb.cell j u (by rw [List.getElem?_toArray]; exact hu)
 ·simp at hu; subst hu; rfl
 ·rw [List.length_append,show strCells (ps ++ [q])=strCells ps ++ [.string (bs q)] from by simp [strCells]]; exact h1
theorem new_str (w:World) (x:Bs):Strs (w.alloc (.cells #[.string (bs x)] 9)) (.slice (some ⟨w.heap.size,0,none⟩) 1 1) [x]:=by
 refine ⟨_,_,rfl,Nat.le_refl _,fun _=>⟨w.heap.size,0,rfl,by simp,fun j q hq=>?_⟩⟩
 have hb:=Blk.new w 9 #[.string (bs x)]
 cases j with
 | zero=>cases hq; exact hb.cell 0 _ rfl
 | succ j=>simp at hq
theorem conv_two (w:World) (x y:Int):(convert 151 9 (.slice (some ⟨w.heap.size,0,none⟩) 2 2)).run Tryz.prog (w.alloc (.cells #[.int .i32 x,.int .i32 y] 21))=.ok (.string (bs (runesL [x,y]))) (w.alloc (.cells #[.int .i32 x,.int .i32 y] 21)):=by
 rw [run_convert_runes_string _ 151 9 21 _ _ _ Tryz.underlying151 Tryz.underlying21 Tryz.underlying9]
 have hb:=Blk.new w 21 #[.int .i32 x,.int .i32 y]
 have hl:=run_loadCells_list (P:=Tryz.prog) (w:=w.alloc (.cells #[.int .i32 x,.int .i32 y] 21)) ⟨w.heap.size,0,none⟩ [.int .i32 x,.int .i32 y] (fun j u hu=>by rw [addr_plus,Nat.zero_add]; exact hb.cell j u (by rw [List.getElem?_toArray]; exact hu))
 rw [run_runesToString _ ⟨w.heap.size,0,none⟩ 2 2 [x,y] hl,runesBytes_bs]
theorem split_sep (all:Bs) (rs:List Bs) (w:World) (hg:Gnd w) (h:(Lib.splitB (bs [44,32]) 0 (Lib.countB (bs all) (bs [44,32])) (bs all)).map (·.data.toList)=rs) (hc:Lib.countB (bs all) (bs [44,32])+1=rs.length) (hl:all.length≤1000000) :
  Calls Tryz.prog 90 #[.string (bs all),.string (bs [44,32])] w fun e w'=>e=.returned (.slice (some ⟨w.heap.size,0,none⟩) rs.length rs.length)∧w'=w.alloc (.cells (strCells rs).toArray 9):=by
 obtain ⟨m,hm⟩:=hg
 refine (Tryz.strings_Split (bs all) (bs [44,32]) m w (by simp; omega) hm (by simp)).mono ?_
 rintro e w' ⟨rfl,rfl⟩
 have e2:(Lib.splitB (bs [44,32]) 0 (Lib.countB (bs all) (bs [44,32])) (bs all))=rs.map bs:=map_bs _ _ h
 rw [hc,e2]
 refine ⟨rfl,?_⟩
 rw [List.map_map]; rfl
theorem cut_rule (p:Pr) (w:World) (hg:Gnd w) (h:before 32 (ruleTx p)=p.1.length) (h1:p.1.length≤10) (h2:p.2.length≤10) :
  Calls Tryz.prog 91 #[.string (bs (ruleTx p)),.string (bs [32])] w fun e w'=>e=.returned (.tuple #[.string (bs p.1),.string (bs p.2),.bool true])∧∃ n,w'=w.drewN n:=by
 have hl:(ruleTx p).length=p.1.length+(p.2.length+1):=by unfold ruleTx; rw [List.length_append,List.length_cons]
 refine (cut_any (ruleTx p) 32 w hg (by omega)).mono ?_
 rintro e w' ⟨rfl,hw⟩
 refine ⟨?_,hw⟩
 rw [h,if_pos (by omega)]
 have e1:(ruleTx p).take p.1.length=p.1:=by unfold ruleTx; simp
 have e2:(ruleTx p).drop (p.1.length+1)=p.2:=by
  unfold ruleTx
  rw [List.drop_append,List.drop_of_length_le (by omega)]
  simp
 rw [e1,e2]
theorem take_pr {ps:List Pr} {k:Nat} {q:Pr} (h:ps[k]? = some q):ps.take (k+1)=ps.take k ++ [q]:=by rw [List.take_succ,h]; rfl
def LocP (c:ColT) (w:World) (e:Ending) (w':World):Prop:=∃ vR vO,e=.returned (colV vR vO c.ignore)∧Col w' vR vO c∧(InB (fun g=>w.heap.size≤g) vR c.ranks.length∧InB (fun g=>w.heap.size≤g) vO c.order.length)∧Kept w w'
set_option maxRecDepth 100000 in
set_option maxHeartbeats 6400000 in
theorem loccol_any (lang:Bs) (w:World) (hg:Gnd w) (ht:Lib.TabIs Tryz.prog w "internal/strconv.uint64pow10" .u64 Lib.pow10Tab) :
  Calls Tryz.prog 38 #[.string (bs lang)] w (LocP (locC lang) w):=by
 have HIT:=Lib.hid (fun (k:Nat) (h:k<10) w' (q:Kept w w')=>itoa_any (k:Int) w' (by omega) (by omega) (tab_kept ht q))
 obtain ⟨B,HB⟩:∃ B,Hid (w.heap.size=B):=⟨_,rfl⟩
 have hr:=(Blk.new w 88 #[.slice none 0 0,.slice none 0 0,.string (bs [])]).alloc (.cells #[.slice none 0 0,.slice none 0 0,.string (bs [])] 88)
 have hc:=Blk.new (w.alloc (.cells #[.slice none 0 0,.slice none 0 0,.string (bs [])] 88)) 88 #[.slice none 0 0,.slice none 0 0,.string (bs [])]
 have HK0:=Lib.hid ((kept_alloc w (.cells #[.slice none 0 0,.slice none 0 0,.string (bs [])] 88)).trans (kept_alloc _ (.cells #[.slice none 0 0,.slice none 0 0,.string (bs [])] 88)))
 simp only [World.size_alloc,HB.out] at hc hr
 have HRB:=Lib.hid hr
 have HC0:Hid (ColSt ((w.alloc (.cells #[.slice none 0 0,.slice none 0 0,.string (bs [])] 88)).alloc (.cells #[.slice none 0 0,.slice none 0 0,.string (bs [])] 88)) (B+1) (B+2) ⟨[],digN 0,[]⟩):=⟨_,_,hc,World.ownsRow_nil _ _ _ _,World.ownsRow_nil _ _ _ _⟩
 clear hr hc
 have HFIN:Hid (∀ vR vO w',Col w' vR vO (locC lang)→InB (fun g=>w.heap.size≤g) vR (locC lang).ranks.length→InB (fun g=>w.heap.size≤g) vO (locC lang).order.length→Kept w w'→LocP (locC lang) w (.returned (colV vR vO [])) w'):=fun vR vO w' h1 h2 h3 h4=>⟨vR,vO,rfl,h1,⟨h2,h3⟩,h4⟩
 generalize LocP (locC lang) w=P at *
 have hsz:=HB.out
 go_enter Tryz.func38,Tryz.ntmps38
 go_wp2_with fail
 generalize World.alloc (World.alloc w _) _=w0 at *
 have hB0:B+1<w0.heap.size:=by obtain ⟨vR,vO,h,_⟩:=HC0.out; exact h.lt
 go_loopw [13] (fun i wr=>∃ (k:Nat),k≤10∧i=.int .i64 k∧Hid (ColSt wr (B+1) (B+2) ⟨[],digN k,[]⟩)∧Hid (Only (fun g=>g=B+1∨B+2≤g) w0 wr)) (fun i _=>10 - (intOf i).toNat)
 case atStart=>exact ⟨0,Nat.zero_le _,rfl,HC0.out,Only.of_kept (Kept.refl w0)⟩
 case round =>
  obtain ⟨k,hk,rfl,HST,HON⟩:=hrel
  by_cases hlt:k<10
  ·have hdl:(digN k).length≤10:=by rw [digN_len]; exact hk
   obtain ⟨ds,HDS⟩:∃ ds,Hid (digN k=ds):=⟨_,rfl⟩
   have HNX:Hid (digN (k+1)=ds ++ [[UInt8.ofNat (48+k)]]):=by rw [← HDS.out]; exact digN_succ k
   rw [HDS.out] at HST hdl
   obtain ⟨vR,vO,hb,hR,hO⟩:=HST.out
   have HBB:=Lib.hid hb
   have HR:=Lib.hid hR
   have HO:=Lib.hid hO
   have hz:=hb.lt
   obtain ⟨aO,cO,rfl,_,_,_⟩:=own_cap hO
   have c1:wr.drew.cell? ⟨B+1,1,none⟩=some (.slice aO ds.length cO):=hb.cell 1 _ rfl
   have hbs:B+2≤wr.heap.size:=by omega
   have HIK:=Lib.hid (HIT.out k hlt)
   have HKD:Hid (Kept w wr.drew):=Lib.hid ((HK0.out.trans' (HON.out.below HK0.out.size (fun i e=>by omega))).trans (kept_drewN wr 1))
   rw [itoa_dig k hlt] at HIK
   obtain ⟨s,HS⟩:∃ s,Hid ([UInt8.ofNat (48+k)]=s):=⟨_,rfl⟩
   rw [HS.out] at HIK HNX
   clear hb hR hO HST
   go_wp2_with fail
   go_region_law (first
     | (go_simp; go_at_call 89; refine (HIK.out _ HKD.out).mono ?_; rintro e w2 ⟨rfl,hk2⟩; have hk3:=(kept_drewN wr 1).trans hk2; have hka:=hk3.trans (kept_alloc w2 (.cells #[.string (bs s)] 9)); have HB2:=Lib.hid (HBB.out.kept hka); have HR2:=Lib.hid (own_kept HR.out hka); have HO2:=Lib.hid (own_kept HO.out hka); have HK2:=Lib.hid hka; have c2:w2.cell? ⟨B+1,1,none⟩=some (.slice aO ds.length cO):=(HBB.out.kept hk3).cell 1 _ rfl; have z2:=(HBB.out.kept hk3).lt; have c2a:(w2.alloc (.cells #[.string (bs s)] 9)).cell? ⟨B+1,1,none⟩=some (.slice aO ds.length cO):=HB2.out.cell 1 _ rfl; have HN2:=Lib.hid (new_str w2 s); have hb2:B+2≤(w2.alloc (.cells #[.string (bs s)] 9)).heap.size:=Nat.le_trans hbs hka.size; clear hk2 hk3 hka)
     | (refine step_append_strs _ rfl (.tmp 17) (.tmp 20) rfl (B+2) _ ds (by rfl) HO2.out _ [s] (by rfl) HN2.out (by simp; omega) hb2 ?_; intro v' w3 hown3 hgrow3; have hb3:=(hgrow3.block (B+1) HB2.out.lt (own_no_blk HO2.out HB2.out (by decide))).trans HB2.out; have f3:w3.frozen? ⟨B+1,1,none⟩=false:=(show Blk w3 (B+1) 88 _ from hb3).free 1; have c3:w3.cell? ⟨B+1,1,none⟩=some (.slice aO ds.length cO):=(show Blk w3 (B+1) 88 _ from hb3).cell 1 _ rfl; have z3:=(show Blk w3 (B+1) 88 _ from hb3).lt; have HG3:=Lib.hid hgrow3; have HO3:=Lib.hid hown3; obtain ⟨a3,c3',rfl,_,_,_⟩:=own_cap hown3; clear hgrow3 hown3 hb3))
   all_goals
    have hS:=st_order (c:=⟨[],ds,[]⟩) (ws:=[s]) HB2.out HR2.out HO2.out HO3.out HG3.out
    rw [show (ds ++ [s]).length=ds.length+1 from by simp] at hS
    have HS1:=Lib.hid hS.1
    have HS2:=Lib.hid ((HON.out.trans (Only.of_kept HK2.out)).trans hS.2)
    clear hS HB2 HR2 HO2 HO3 HG3 HN2 HK2 c1 c2 c2a z2
    go_wp2_with fail
    go_roundw
    case rel=>exact ⟨k+1,by omega,by go_num,(by rw [HNX.out]; exact HS1.out),HS2.out⟩
    case measure=>simp [intOf]; omega
  ·obtain rfl:k=10:=by omega
   have HST0:Hid (ColSt wr (B+1) (B+2) ⟨[],digN 10 ++ letN (lang == wEs) 0,[]⟩):=HST
   obtain ⟨es,HES⟩:∃ es,Hid ((lang == wEs)=es):=⟨_,rfl⟩
   rw [HES.out] at HST0
   clear HST
   go_wp2_with fail
   obtain ⟨wo,rfl⟩:∃ wo:World,wo=wr:=⟨_,rfl⟩
   go_loopw [24] (fun i wr=>∃ (k:Nat),k≤26∧i=.int .i64 k∧Hid (ColSt wr (B+1) (B+2) ⟨[],digN 10 ++ letN es k,[]⟩)∧Hid (Only (fun g=>g=B+1∨B+2≤g) w0 wr)) (fun i _=>26 - (intOf i).toNat)
   case atStart=>exact ⟨0,Nat.zero_le _,rfl,HST0.out,HON.out⟩
   case round =>
    clear HON HST0
    obtain ⟨k,hk,rfl,HST,HON⟩:=hrel
    by_cases hlt:k<26
    ·have hdl:(digN 10 ++ letN es k).length≤62:=by
      rw [List.length_append,digN_len]; have:=letN_len es k; omega
     obtain ⟨ds,HDS⟩:∃ ds,Hid (digN 10 ++ letN es k=ds):=⟨_,rfl⟩
     have HNX:Hid (digN 10 ++ letN es (k+1)=ds ++ letC es k):=by rw [← HDS.out,letN_succ,List.append_assoc]; exact Lib.hid rfl
     rw [HDS.out] at HST hdl
     obtain ⟨vR,vO,hb,hR,hO⟩:=HST.out
     have HRU:=Lib.hid (runes_let k hlt)
     obtain ⟨s,HS⟩:∃ s,Hid ([UInt8.ofNat (97+k),UInt8.ofNat (65+k)]=s):=⟨_,rfl⟩
     rw [HS.out] at HRU
     have HBB:=Lib.hid hb
     have HR:=Lib.hid hR
     have HO:=Lib.hid hO
     have hz:=hb.lt
     obtain ⟨aO,cO,rfl,_,_,_⟩:=own_cap hO
     have c1:wr.cell? ⟨B+1,1,none⟩=some (.slice aO ds.length cO):=hb.cell 1 _ rfl
     have hbs:B+2≤wr.heap.size:=by omega
     obtain ⟨K,HKK⟩:∃ K:Int,Hid ((k:Int)=K):=⟨_,rfl⟩
     have hK0:0≤K:=by rw [← HKK.out]; omega
     have hK1:K<26:=by rw [← HKK.out]; omega
     rw [HKK.out] at HRU ⊢
     have cv:=conv_two wr (97+K) (97+K - 97+65)
     rw [show 97+K - 97+65=65+K from by omega,HRU.out,show 65+K=97+K - 97+65 from by omega] at cv
     have hka:=(kept_alloc wr (.cells #[.int .i32 (97+K),.int .i32 (97+K - 97+65)] 21)).trans (kept_alloc _ (.cells #[.string (bs s)] 9))
     have hn:=Blk.new (wr.alloc (.cells #[.int .i32 (97+K),.int .i32 (97+K - 97+65)] 21)) 9 #[.string (bs s)]
     rw [World.size_alloc] at hn
     have HN2:=Lib.hid hn
     have HB2:=Lib.hid (HBB.out.kept hka)
     have HR2:=Lib.hid (own_kept HR.out hka)
     have HO2:=Lib.hid (own_kept HO.out hka)
     have HK2:=Lib.hid hka
     have hb2:=Nat.le_trans hbs hka.size
     clear hlt hk hka hb hR hO HST HBB HR HO hn
     go_upto_region 12 with (first
      | (refine wpList_append_s1 _ rfl (.tmp 31) (.tmp 38) rfl (B+2) _ ds (by rfl) HO2.out s _ (by rfl) HN2.out (by omega) hb2 ?_; intro v' w3 hown3 hgrow3; have hb3:=(hgrow3.block (B+1) HB2.out.lt (own_no_blk HO2.out HB2.out (by decide))).trans HB2.out; have f3:w3.frozen? ⟨B+1,1,none⟩=false:=(show Blk w3 (B+1) 88 _ from hb3).free 1; have c3:w3.cell? ⟨B+1,1,none⟩=some (.slice aO ds.length cO):=(show Blk w3 (B+1) 88 _ from hb3).cell 1 _ rfl; have z3:=(show Blk w3 (B+1) 88 _ from hb3).lt; have HG3:=Lib.hid hgrow3; have HO3:=Lib.hid hown3; obtain ⟨a3,c3',rfl,_,_,_⟩:=own_cap hown3; clear hgrow3 hown3 hb3))
     have hS:=st_order (c:=⟨[],ds,[]⟩) (ws:=[s]) HB2.out HR2.out HO2.out HO3.out HG3.out
     rw [show (ds ++ [s]).length=ds.length+1 from by simp] at hS
     have HS1:=Lib.hid hS.1
     have HS2:=Lib.hid ((HON.out.trans (Only.of_kept HK2.out)).trans hS.2)
     clear hS HB2 HR2 HO2 HO3 HG3 HN2 HK2 c1 f3 c3 z3 hb2 hbs cv HON
     simp only [World.size_alloc,Nat.add_assoc] at HS1 HS2 ⊢
     generalize World.setCell _ _ _=w4 at *
     by_cases hq:es=true∧k=13
     ·obtain ⟨hq1,hq2⟩:=hq
      have hK:(97+K == 110)=true:=by rw [← HKK.out,hq2]; rfl
      have hK2:97+K=110:=by rw [← HKK.out,hq2]; rfl
      have hes:(lang == [101,115])=true:=HES.out.trans hq1
      have HLC:Hid (digN 10 ++ letN es (k+1)=(ds ++ [s]) ++ [nyB]):=by
       show _=_
       rw [HNX.out,← HS.out]
       unfold letC
       rw [if_pos ⟨hq1,hq2⟩,List.append_assoc]; rfl
      obtain ⟨dt,HDT⟩:∃ dt,Hid (ds ++ [s]=dt):=⟨_,rfl⟩
      have hdl2:dt.length≤63:=by rw [← HDT.out,List.length_append,List.length_singleton]; omega
      rw [HDT.out] at HS1 HLC
      obtain ⟨vR,vO,hb,hR,hO⟩:=HS1.out
      have HBB:=Lib.hid hb
      have HR:=Lib.hid hR
      have HO:=Lib.hid hO
      have hz:=hb.lt
      obtain ⟨aO,cO,rfl,_,_,_⟩:=own_cap hO
      have c1:w4.cell? ⟨B+1,1,none⟩=some (.slice aO dt.length cO):=hb.cell 1 _ rfl
      have hbs:B+2≤w4.heap.size:=by omega
      have hka:=kept_alloc w4 (.cells #[.string (bs [195,177,195,145])] 9)
      have hn:=Blk.new w4 9 #[.string (bs [195,177,195,145])]
      have HN2:=Lib.hid hn
      have HB2:=Lib.hid (HBB.out.kept hka)
      have HR2:=Lib.hid (own_kept HR.out hka)
      have HO2:=Lib.hid (own_kept HO.out hka)
      have HK2:=Lib.hid hka
      have hb2:=Nat.le_trans hbs hka.size
      clear hka hb hR hO HBB HR HO hn HS1
      go_wp2_with (first
       | (refine wpList_append_s1 _ rfl (.tmp 48) (.tmp 49) rfl (B+2) _ dt (by rfl) HO2.out [195,177,195,145] _ (by rfl) HN2.out (by omega) hb2 ?_; intro v' w3 hown3 hgrow3; have hb3:=(hgrow3.block (B+1) HB2.out.lt (own_no_blk HO2.out HB2.out (by decide))).trans HB2.out; have f3:w3.frozen? ⟨B+1,1,none⟩=false:=(show Blk w3 (B+1) 88 _ from hb3).free 1; have c3:w3.cell? ⟨B+1,1,none⟩=some (.slice aO dt.length cO):=(show Blk w3 (B+1) 88 _ from hb3).cell 1 _ rfl; have z3:=(show Blk w3 (B+1) 88 _ from hb3).lt; have HG3:=Lib.hid hgrow3; have HO3:=Lib.hid hown3; obtain ⟨a3,c3',rfl,_,_,_⟩:=own_cap hown3; clear hgrow3 hown3 hb3))
      have hS:=st_order (c:=⟨[],dt,[]⟩) (ws:=[[195,177,195,145]]) HB2.out HR2.out HO2.out HO3.out HG3.out
      have hln:(dt ++ [[195,177,195,145]]).length=dt.length+1:=by rw [List.length_append]; rfl
      simp only [hln] at hS
      have hS1:ColSt _ (B+1) (B+2) ⟨[],dt ++ [[195,177,195,145]],[]⟩:=hS.1
      rw [show dt ++ [[195,177,195,145]]=digN 10 ++ letN es (k+1) from HLC.out.symm] at hS1
      rw [hq1] at hS1
      have HS3:=Lib.hid hS1
      clear hS1
      have HS4:=Lib.hid ((HS2.out.trans (Only.of_kept HK2.out)).trans hS.2)
      clear hS HB2 HR2 HO2 HO3 HG3 HN2 HK2 c1 f3 c3 z3
      go_wp2_with fail
      go_roundw
      case rel=>refine ⟨_,_,_,⟨k+1,(by have:=HKK.out; omega),?_,HS3.out,HS4.out⟩,rfl,rfl,rfl⟩; rw [← HKK.out]; rfl
      case measure=>have:=HKK.out; simp [intOf]; omega
     ·have HLC:Hid (digN 10 ++ letN es (k+1)=ds ++ [s]):=by
       show _=_
       rw [HNX.out,← HS.out]
       unfold letC
       rw [if_neg hq]
      rw [← HLC.out] at HS1
      cases hes0:es with
      | true =>
       have hes:(lang == [101,115])=true:=HES.out.trans hes0
       have hk13:k≠13:=fun e=>hq ⟨hes0,e⟩
       have hK2:¬ 97+K=110:=by rw [← HKK.out]; omega
       have hK:(97+K == 110)=false:=by rw [beq_eq_false_iff_ne]; exact hK2
       rw [hes0] at HS1
       go_wp2_with fail
       go_roundw
       case rel=>refine ⟨_,_,_,⟨k+1,(by have:=HKK.out; omega),?_,HS1.out⟩,rfl,rfl,rfl⟩; rw [← HKK.out]; rfl
       case measure=>have:=HKK.out; simp [intOf]; omega
      | false =>
       have hes:(lang == [101,115])=false:=HES.out.trans hes0
       rw [hes0] at HS1
       go_wp2_with fail
       go_roundw
       case rel=>refine ⟨_,_,_,⟨k+1,(by have:=HKK.out; omega),?_,HS1.out⟩,rfl,rfl,rfl⟩; rw [← HKK.out]; rfl
       case measure=>have:=HKK.out; simp [intOf]; omega
    ·obtain rfl:k=26:=by omega
     rw [← HES.out] at HST
     obtain ⟨ds,HDS⟩:∃ ds,Hid (digN 10 ++ letN (lang == wEs) 26=ds):=⟨_,rfl⟩
     have HLO:Hid (locC lang=⟨rkL lang,ds,[]⟩):=by
      show _=_
      rw [← HDS.out]; rfl
     have hdl:ds.length≤62:=by
      rw [← HDS.out,List.length_append,digN_len]; have:=letN_len (lang == wEs) 26; omega
     rw [HDS.out] at HST
     rw [HLO.out] at HFIN
     have HRR:=Lib.hid (HRB.out.onl HON.out (by omega))
     have HKW:Hid (Kept w wr):=HK0.out.trans' (HON.out.below HK0.out.size (fun i e=>by omega))
     obtain ⟨vR,vO,hb,hR,hO⟩:=HST.out
     have HCB:=Lib.hid hb
     have HOO:Hid (Strs wr vO ds):=Strs.own hO
     have HOL:Hid (∀ g,vO.ownBlock=some g→B+2≤g∧g<wr.heap.size):=fun g q=>hO.lt g q
     obtain ⟨aO,cO,rfl,_,_,_⟩:=own_cap hO
     obtain ⟨aR,cR,hvR,_,_,_⟩:=own_cap hR
     have hvR':vR=.slice aR 0 cR:=hvR
     subst hvR'
     have hcz:=hb.lt
     have hrz:=HRR.out.lt
     clear hb hR hO HDS HLO HES
     by_cases h1:lang=wDe
     ·subst h1
      have HRK:Hid (rkL wDe=rkDe):=by show _=_; decide +kernel
      rw [HRK.out] at HFIN
      have HSP:=Lib.hid (split_sep allDe (rkDe.map ruleTx) wr (hg.kept HKW.out) splitDe (by rw [List.length_map]; exact countDe) (by decide +kernel))
      have HBF:Hid (∀ p∈rkDe,before 32 (ruleTx p)=p.1.length∧p.1.length≤10∧p.2.length≤10):=by show ∀ p∈_,_; decide +kernel
      have HRN:Hid (rkDe.length≤28):=by show _≤_; decide +kernel
      obtain ⟨rk,HRQ⟩:∃ rk,Hid (rkDe=rk):=⟨_,rfl⟩
      rw [HRQ.out] at HFIN HSP HBF HRN
      clear HRK HRQ
      have HRT:Hid (∀ (k:Nat) p,rk[k]? = some p→(rk.map ruleTx)[k]? = some (ruleTx p)):=fun k p h=>by rw [List.getElem?_map,h]; rfl
      have hrl:(rk.map ruleTx).length=rk.length:=List.length_map _
      obtain ⟨rs,HRS⟩:∃ rs,Hid (rk.map ruleTx=rs):=⟨_,rfl⟩
      rw [HRS.out] at HRT HSP hrl
      have HRL:=Lib.hid hrl
      have HCT:=Lib.hid (fun (p:Pr) (h:before 32 (ruleTx p)=p.1.length∧p.1.length≤10∧p.2.length≤10) w' (k:Kept w w')=>cut_rule p w' (hg.kept k) h.1 h.2.1 h.2.2)
      clear hrl HRS
      unfold allDe at HSP
      go_wp2_with fail
      refine HSP.out.mono ?_
      rintro e w1 ⟨rfl,rfl⟩
      have hka:=kept_alloc wr (.cells (strCells rs).toArray 9)
      have HSB:=Lib.hid (Blk.new wr 9 (strCells rs).toArray)
      have HST1:=Lib.hid (HST.out.kept hka)
      have HON1:Hid (Only (fun g=>g=B+1∨B+2≤g) w0 _):=HON.out.trans (Only.of_kept hka)
      have HSB2:Hid (B+2≤wr.heap.size):=by show _≤_; omega
      generalize wr.alloc (.cells (strCells rs).toArray 9)=w1 at *
      generalize wr.heap.size=S at *
      clear HSP hka HST HON HRR HCB HOO HOL hcz hrz HKW
      go_wp2_with fail
      go_loopw [64] (fun i wx=>∃ (k:Nat),k≤rs.length∧i=.int .i64 k∧Hid (ColSt wx (B+1) (B+2) ⟨rk.take k,ds,[]⟩)∧Hid (Blk wx S 9 (strCells rs).toArray)∧Hid (Only (fun g=>g=B+1∨B+2≤g) w0 wx)) (fun i _=>rs.length - (intOf i).toNat)
      case atStart=>exact ⟨0,Nat.zero_le _,rfl,HST1.out,HSB.out,HON1.out⟩
      case round =>
       clear HST1 HSB HON1
       obtain ⟨k,hk,rfl,HST,HSB,HON⟩:=hrel
       have HKW:Hid (Kept w wr):=HK0.out.trans' (HON.out.below HK0.out.size (fun i e=>by omega))
       by_cases hlt:k<rs.length
       ·obtain ⟨q,hx⟩:∃ x,rk[k]? = some x:=⟨_,List.getElem?_eq_getElem (by have:=HRL.out; omega)⟩
        have hqr:=HRT.out k q hx
        have hrs28:rs.length≤28:=by have h1:=HRL.out; have h2:=HRN.out; omega
        have HTK:=Lib.hid (take_pr hx)
        have hbf:=HBF.out q (List.mem_of_getElem? hx)
        have HCQ:=Lib.hid (fun w' (kk:Kept wr w')=>HCT.out q hbf w' (HKW.out.trans kk))
        have d0:wr.cell? ⟨S,k,none⟩=some (.string (bs (ruleTx q))):=HSB.out.cell k _ (by rw [List.getElem?_toArray]; unfold strCells; rw [List.getElem?_map,hqr]; rfl)
        have sz:=HSB.out.lt
        have hul:(rk.take k).length≤28:=by have:=HRN.out; rw [List.length_take]; omega
        obtain ⟨us,HUS⟩:∃ us,Hid (rk.take k=us):=⟨_,rfl⟩
        rw [HUS.out] at HST HTK hul
        obtain ⟨rt,HRTX⟩:∃ rt,Hid (ruleTx q=rt):=⟨_,rfl⟩
        rw [HRTX.out] at d0 HCQ
        obtain ⟨q1,q2⟩:=q
        simp only at HCQ
        clear hx hqr HUS HRTX hbf
        go_wp2_with fail
        refine (HCQ.out wr (Kept.refl _)).mono ?_
        rintro e w2 ⟨rfl,n2,rfl⟩
        have hkd:=kept_drewN wr n2
        have HST2:=Lib.hid (HST.out.kept hkd)
        have HSB2':=Lib.hid (HSB.out.kept hkd)
        have HON2:Hid (Only (fun g=>g=B+1∨B+2≤g) w0 _):=HON.out.trans (Only.of_kept hkd)
        generalize wr.drewN n2=w2 at *
        clear d0 sz HST HSB HON hkd HCQ
        obtain ⟨vR,vO,hb,hR,hO⟩:=HST2.out
        have HBB:=Lib.hid hb
        have HR:=Lib.hid hR
        have HO:=Lib.hid hO
        have hz:=hb.lt
        obtain ⟨aR',cR',hvR,_,_,_⟩:=own_cap hR
        have hvR':vR=.slice aR' us.length cR':=hvR
        subst hvR'
        have c1:w2.cell? ⟨B+1,0,none⟩=some (.slice aR' us.length cR'):=hb.cell 0 _ rfl
        have hbs:B+2≤w2.heap.size:=by omega
        have hka:=kept_alloc w2 (.cells #[.string (bs q1),.string (bs q2)] 62)
        have HN2:=Lib.hid (Blk.new w2 62 #[.string (bs q1),.string (bs q2)])
        have HB2:=Lib.hid (HBB.out.kept hka)
        have HR2:=Lib.hid (own_kept HR.out hka)
        have HO2:=Lib.hid (own_kept HO.out hka)
        have HS2:=Lib.hid (HSB2'.out.kept hka)
        have HK2:=Lib.hid hka
        have hb2:=Nat.le_trans hbs hka.size
        clear hka hb hR hO HBB HR HO HST2 HSB2'
        go_wp2_with (first
         | (refine wpList_append_pr _ rfl (.tmp 75) (.tmp 79) rfl (B+2) _ us (by rfl) HR2.out (q1,q2) _ (by rfl) HN2.out (by omega) hb2 ?_; intro v' w3 hown3 hgrow3; have hb3:=(hgrow3.block (B+1) HB2.out.lt (own_no_blk HR2.out HB2.out (by decide))).trans HB2.out; have f3:w3.frozen? ⟨B+1,0,none⟩=false:=(show Blk w3 (B+1) 88 _ from hb3).free 0; have c3:w3.cell? ⟨B+1,0,none⟩=some (.slice aR' us.length cR'):=(show Blk w3 (B+1) 88 _ from hb3).cell 0 _ rfl; have z3:=(show Blk w3 (B+1) 88 _ from hb3).lt; have HG3:=Lib.hid hgrow3; have HO3:=Lib.hid hown3; obtain ⟨a3,c3',rfl,_,_,_⟩:=own_cap hown3; have HS3:Hid (Blk w3 S 9 (strCells rs).toArray):=(hgrow3.block S HS2.out.lt (own_no_blk HR2.out HS2.out (by decide))).trans HS2.out; clear hgrow3 hown3 hb3))
        have hS:=st_ranks (c:=⟨us,ds,[]⟩) (ps:=[(q1,q2)]) HB2.out HR2.out HO2.out HO3.out HG3.out
        have hln:(us ++ [(q1,q2)]).length=us.length+1:=by rw [List.length_append]; rfl
        simp only [hln] at hS
        have hS1:ColSt _ (B+1) (B+2) ⟨us ++ [(q1,q2)],ds,[]⟩:=hS.1
        rw [← HTK.out] at hS1
        have HS4:=Lib.hid hS1
        have HS5:=Lib.hid ((HON2.out.trans (Only.of_kept HK2.out)).trans hS.2)
        have hsb:=HSB2.out
        have HS6:=Lib.hid (HS3.out.onl (Only.setCell (B+1) 0 (.slice a3 (us.length+1) c3')) (by omega))
        clear hS hS1 HB2 HR2 HO2 HO3 HG3 HN2 HK2 c1 f3 c3 z3 HS2 HS3 HON2 hln
        go_wp2_with fail
        go_roundw
        case rel=>exact ⟨k+1,by omega,by go_num,HS4.out,HS6.out,HS5.out⟩
        case measure=>simp [intOf]; omega
       ·have hke:k=rk.length:=by have:=HRL.out; omega
        rw [hke,List.take_length] at HST
        have HRR:=Lib.hid (HRB.out.onl HON.out (by omega))
        obtain ⟨vR,vO,hb,hR,hO⟩:=HST.out
        have HCB:=Lib.hid hb
        have HPR:Hid (Prs wr vR rk):=Prs.own hR
        have HOO:Hid (Strs wr vO ds):=Strs.own hO
        have HOL:Hid (∀ g,vO.ownBlock=some g→B+2≤g∧g<wr.heap.size):=fun g q=>hO.lt g q
        have HRL2:Hid (∀ g,vR.ownBlock=some g→B+2≤g∧g<wr.heap.size):=fun g q=>hR.lt g q
        obtain ⟨aO,cO,rfl,_,_,_⟩:=own_cap hO
        obtain ⟨aR,cR,hvR,_,_,_⟩:=own_cap hR
        have hvR':vR=.slice aR rk.length cR:=hvR
        subst hvR'
        have hcz:=hb.lt
        have hrz:=HRR.out.lt
        clear hb hR hO HST HON HSB HRL hke
        go_wp2_with (first
         | (refine wpList_load_blk (by rfl) 88 (.tmp 3) (by rfl) (B+1) _ (by rfl) HCB.out _ Tryz.underlying88 rfl Tryz.sizeCo ?_)
         | (refine wpList_store_blk rfl 88 (.tmp 2) (.tmp 83) (by rfl) B _ #[.slice aR rk.length cR,.slice aO ds.length cO,.string (bs [])] (by rfl) (by rfl) HRR.out rfl Tryz.sizeCo (by simp only [List.all_toArray,List.all_cons,List.all_nil]; rfl) ?_; intro w9 hb9 ho9; have r0:w9.cell? ⟨B,0,none⟩=some (.slice aR rk.length cR):=hb9.cell 0 _ rfl; have r1:w9.cell? ⟨B,1,none⟩=some (.slice aO ds.length cO):=hb9.cell 1 _ rfl; have r2:w9.cell? ⟨B,2,none⟩=some (.string (bs [])):=hb9.cell 2 _ rfl; have rz:=hb9.lt; have HO9:=Lib.hid ho9; clear hb9 ho9))
        refine bodyPost_ret (v:=colV (.slice aR rk.length cR) (.slice aO ds.length cO) []) ?_ rfl (HFIN.out (.slice aR rk.length cR) (.slice aO ds.length cO) w9 ⟨?_,?_⟩ ?_ ?_ ?_)
        ·simp [results,Tryz.results38,go_sem,r0,r1,r2,rz]
        ·exact HPR.out.onlS (S:=fun g=>B+2≤g) (fun _ g q=>(HRL2.out g q).1) HO9.out (fun g _ hs q=>by omega)
        ·exact HOO.out.onlS (S:=fun g=>B+2≤g) (fun _ g q=>(HOL.out g q).1) HO9.out (fun g _ hs q=>by omega)
        ·exact fun _ g q=>by have:=(HRL2.out g q).1; omega
        ·exact fun _ g q=>by have:=(HOL.out g q).1; omega
        ·exact HKW.out.trans' (HO9.out.below HKW.out.size (fun i e=>by omega))
     ·have n1:(lang == [100,101])=false:=by rw [beq_eq_false_iff_ne]; exact h1
      by_cases h2:lang=wFr
      ·subst h2
       have HRK:Hid (rkL wFr=rkFr):=by show _=_; decide +kernel
       rw [HRK.out] at HFIN
       have HSP:=Lib.hid (split_sep allFr (rkFr.map ruleTx) wr (hg.kept HKW.out) splitFr (by rw [List.length_map]; exact countFr) (by decide +kernel))
       have HBF:Hid (∀ p∈rkFr,before 32 (ruleTx p)=p.1.length∧p.1.length≤10∧p.2.length≤10):=by show ∀ p∈_,_; decide +kernel
       have HRN:Hid (rkFr.length≤28):=by show _≤_; decide +kernel
       obtain ⟨rk,HRQ⟩:∃ rk,Hid (rkFr=rk):=⟨_,rfl⟩
       rw [HRQ.out] at HFIN HSP HBF HRN
       clear HRK HRQ
       have HRT:Hid (∀ (k:Nat) p,rk[k]? = some p→(rk.map ruleTx)[k]? = some (ruleTx p)):=fun k p h=>by rw [List.getElem?_map,h]; rfl
       have hrl:(rk.map ruleTx).length=rk.length:=List.length_map _
       obtain ⟨rs,HRS⟩:∃ rs,Hid (rk.map ruleTx=rs):=⟨_,rfl⟩
       rw [HRS.out] at HRT HSP hrl
       have HRL:=Lib.hid hrl
       have HCT:=Lib.hid (fun (p:Pr) (h:before 32 (ruleTx p)=p.1.length∧p.1.length≤10∧p.2.length≤10) w' (k:Kept w w')=>cut_rule p w' (hg.kept k) h.1 h.2.1 h.2.2)
       clear hrl HRS
       unfold allFr at HSP
       go_wp2_with fail
       refine HSP.out.mono ?_
       rintro e w1 ⟨rfl,rfl⟩
       have hka:=kept_alloc wr (.cells (strCells rs).toArray 9)
       have HSB:=Lib.hid (Blk.new wr 9 (strCells rs).toArray)
       have HST1:=Lib.hid (HST.out.kept hka)
       have HON1:Hid (Only (fun g=>g=B+1∨B+2≤g) w0 _):=HON.out.trans (Only.of_kept hka)
       have HSB2:Hid (B+2≤wr.heap.size):=by show _≤_; omega
       generalize wr.alloc (.cells (strCells rs).toArray 9)=w1 at *
       generalize wr.heap.size=S at *
       clear HSP hka HST HON HRR HCB HOO HOL hcz hrz HKW
       go_wp2_with fail
       go_loopw [64] (fun i wx=>∃ (k:Nat),k≤rs.length∧i=.int .i64 k∧Hid (ColSt wx (B+1) (B+2) ⟨rk.take k,ds,[]⟩)∧Hid (Blk wx S 9 (strCells rs).toArray)∧Hid (Only (fun g=>g=B+1∨B+2≤g) w0 wx)) (fun i _=>rs.length - (intOf i).toNat)
       case atStart=>exact ⟨0,Nat.zero_le _,rfl,HST1.out,HSB.out,HON1.out⟩
       case round =>
        clear HST1 HSB HON1
        obtain ⟨k,hk,rfl,HST,HSB,HON⟩:=hrel
        have HKW:Hid (Kept w wr):=HK0.out.trans' (HON.out.below HK0.out.size (fun i e=>by omega))
        by_cases hlt:k<rs.length
        ·obtain ⟨q,hx⟩:∃ x,rk[k]? = some x:=⟨_,List.getElem?_eq_getElem (by have:=HRL.out; omega)⟩
         have hqr:=HRT.out k q hx
         have hrs28:rs.length≤28:=by have h1:=HRL.out; have h2:=HRN.out; omega
         have HTK:=Lib.hid (take_pr hx)
         have hbf:=HBF.out q (List.mem_of_getElem? hx)
         have HCQ:=Lib.hid (fun w' (kk:Kept wr w')=>HCT.out q hbf w' (HKW.out.trans kk))
         have d0:wr.cell? ⟨S,k,none⟩=some (.string (bs (ruleTx q))):=HSB.out.cell k _ (by rw [List.getElem?_toArray]; unfold strCells; rw [List.getElem?_map,hqr]; rfl)
         have sz:=HSB.out.lt
         have hul:(rk.take k).length≤28:=by have:=HRN.out; rw [List.length_take]; omega
         obtain ⟨us,HUS⟩:∃ us,Hid (rk.take k=us):=⟨_,rfl⟩
         rw [HUS.out] at HST HTK hul
         obtain ⟨rt,HRTX⟩:∃ rt,Hid (ruleTx q=rt):=⟨_,rfl⟩
         rw [HRTX.out] at d0 HCQ
         obtain ⟨q1,q2⟩:=q
         simp only at HCQ
         clear hx hqr HUS HRTX hbf
         go_wp2_with fail
         refine (HCQ.out wr (Kept.refl _)).mono ?_
         rintro e w2 ⟨rfl,n2,rfl⟩
         have hkd:=kept_drewN wr n2
         have HST2:=Lib.hid (HST.out.kept hkd)
         have HSB2':=Lib.hid (HSB.out.kept hkd)
         have HON2:Hid (Only (fun g=>g=B+1∨B+2≤g) w0 _):=HON.out.trans (Only.of_kept hkd)
         generalize wr.drewN n2=w2 at *
         clear d0 sz HST HSB HON hkd HCQ
         obtain ⟨vR,vO,hb,hR,hO⟩:=HST2.out
         have HBB:=Lib.hid hb
         have HR:=Lib.hid hR
         have HO:=Lib.hid hO
         have hz:=hb.lt
         obtain ⟨aR',cR',hvR,_,_,_⟩:=own_cap hR
         have hvR':vR=.slice aR' us.length cR':=hvR
         subst hvR'
         have c1:w2.cell? ⟨B+1,0,none⟩=some (.slice aR' us.length cR'):=hb.cell 0 _ rfl
         have hbs:B+2≤w2.heap.size:=by omega
         have hka:=kept_alloc w2 (.cells #[.string (bs q1),.string (bs q2)] 62)
         have HN2:=Lib.hid (Blk.new w2 62 #[.string (bs q1),.string (bs q2)])
         have HB2:=Lib.hid (HBB.out.kept hka)
         have HR2:=Lib.hid (own_kept HR.out hka)
         have HO2:=Lib.hid (own_kept HO.out hka)
         have HS2:=Lib.hid (HSB2'.out.kept hka)
         have HK2:=Lib.hid hka
         have hb2:=Nat.le_trans hbs hka.size
         clear hka hb hR hO HBB HR HO HST2 HSB2'
         go_wp2_with (first
          | (refine wpList_append_pr _ rfl (.tmp 75) (.tmp 79) rfl (B+2) _ us (by rfl) HR2.out (q1,q2) _ (by rfl) HN2.out (by omega) hb2 ?_; intro v' w3 hown3 hgrow3; have hb3:=(hgrow3.block (B+1) HB2.out.lt (own_no_blk HR2.out HB2.out (by decide))).trans HB2.out; have f3:w3.frozen? ⟨B+1,0,none⟩=false:=(show Blk w3 (B+1) 88 _ from hb3).free 0; have c3:w3.cell? ⟨B+1,0,none⟩=some (.slice aR' us.length cR'):=(show Blk w3 (B+1) 88 _ from hb3).cell 0 _ rfl; have z3:=(show Blk w3 (B+1) 88 _ from hb3).lt; have HG3:=Lib.hid hgrow3; have HO3:=Lib.hid hown3; obtain ⟨a3,c3',rfl,_,_,_⟩:=own_cap hown3; have HS3:Hid (Blk w3 S 9 (strCells rs).toArray):=(hgrow3.block S HS2.out.lt (own_no_blk HR2.out HS2.out (by decide))).trans HS2.out; clear hgrow3 hown3 hb3))
         have hS:=st_ranks (c:=⟨us,ds,[]⟩) (ps:=[(q1,q2)]) HB2.out HR2.out HO2.out HO3.out HG3.out
         have hln:(us ++ [(q1,q2)]).length=us.length+1:=by rw [List.length_append]; rfl
         simp only [hln] at hS
         have hS1:ColSt _ (B+1) (B+2) ⟨us ++ [(q1,q2)],ds,[]⟩:=hS.1
         rw [← HTK.out] at hS1
         have HS4:=Lib.hid hS1
         have HS5:=Lib.hid ((HON2.out.trans (Only.of_kept HK2.out)).trans hS.2)
         have hsb:=HSB2.out
         have HS6:=Lib.hid (HS3.out.onl (Only.setCell (B+1) 0 (.slice a3 (us.length+1) c3')) (by omega))
         clear hS hS1 HB2 HR2 HO2 HO3 HG3 HN2 HK2 c1 f3 c3 z3 HS2 HS3 HON2 hln
         go_wp2_with fail
         go_roundw
         case rel=>exact ⟨k+1,by omega,by go_num,HS4.out,HS6.out,HS5.out⟩
         case measure=>simp [intOf]; omega
        ·have hke:k=rk.length:=by have:=HRL.out; omega
         rw [hke,List.take_length] at HST
         have HRR:=Lib.hid (HRB.out.onl HON.out (by omega))
         obtain ⟨vR,vO,hb,hR,hO⟩:=HST.out
         have HCB:=Lib.hid hb
         have HPR:Hid (Prs wr vR rk):=Prs.own hR
         have HOO:Hid (Strs wr vO ds):=Strs.own hO
         have HOL:Hid (∀ g,vO.ownBlock=some g→B+2≤g∧g<wr.heap.size):=fun g q=>hO.lt g q
         have HRL2:Hid (∀ g,vR.ownBlock=some g→B+2≤g∧g<wr.heap.size):=fun g q=>hR.lt g q
         obtain ⟨aO,cO,rfl,_,_,_⟩:=own_cap hO
         obtain ⟨aR,cR,hvR,_,_,_⟩:=own_cap hR
         have hvR':vR=.slice aR rk.length cR:=hvR
         subst hvR'
         have hcz:=hb.lt
         have hrz:=HRR.out.lt
         clear hb hR hO HST HON HSB HRL hke
         go_wp2_with (first
          | (refine wpList_load_blk (by rfl) 88 (.tmp 3) (by rfl) (B+1) _ (by rfl) HCB.out _ Tryz.underlying88 rfl Tryz.sizeCo ?_)
          | (refine wpList_store_blk rfl 88 (.tmp 2) (.tmp 83) (by rfl) B _ #[.slice aR rk.length cR,.slice aO ds.length cO,.string (bs [])] (by rfl) (by rfl) HRR.out rfl Tryz.sizeCo (by simp only [List.all_toArray,List.all_cons,List.all_nil]; rfl) ?_; intro w9 hb9 ho9; have r0:w9.cell? ⟨B,0,none⟩=some (.slice aR rk.length cR):=hb9.cell 0 _ rfl; have r1:w9.cell? ⟨B,1,none⟩=some (.slice aO ds.length cO):=hb9.cell 1 _ rfl; have r2:w9.cell? ⟨B,2,none⟩=some (.string (bs [])):=hb9.cell 2 _ rfl; have rz:=hb9.lt; have HO9:=Lib.hid ho9; clear hb9 ho9))
         refine bodyPost_ret (v:=colV (.slice aR rk.length cR) (.slice aO ds.length cO) []) ?_ rfl (HFIN.out (.slice aR rk.length cR) (.slice aO ds.length cO) w9 ⟨?_,?_⟩ ?_ ?_ ?_)
         ·simp [results,Tryz.results38,go_sem,r0,r1,r2,rz]
         ·exact HPR.out.onlS (S:=fun g=>B+2≤g) (fun _ g q=>(HRL2.out g q).1) HO9.out (fun g _ hs q=>by omega)
         ·exact HOO.out.onlS (S:=fun g=>B+2≤g) (fun _ g q=>(HOL.out g q).1) HO9.out (fun g _ hs q=>by omega)
         ·exact fun _ g q=>by have:=(HRL2.out g q).1; omega
         ·exact fun _ g q=>by have:=(HOL.out g q).1; omega
         ·exact HKW.out.trans' (HO9.out.below HKW.out.size (fun i e=>by omega))
      ·have n2:(lang == [102,114])=false:=by rw [beq_eq_false_iff_ne]; exact h2
       by_cases h3:lang=wEs
       ·subst h3
        have HRK:Hid (rkL wEs=rkEs):=by show _=_; decide +kernel
        rw [HRK.out] at HFIN
        have HSP:=Lib.hid (split_sep allEs (rkEs.map ruleTx) wr (hg.kept HKW.out) splitEs (by rw [List.length_map]; exact countEs) (by decide +kernel))
        have HBF:Hid (∀ p∈rkEs,before 32 (ruleTx p)=p.1.length∧p.1.length≤10∧p.2.length≤10):=by show ∀ p∈_,_; decide +kernel
        have HRN:Hid (rkEs.length≤28):=by show _≤_; decide +kernel
        obtain ⟨rk,HRQ⟩:∃ rk,Hid (rkEs=rk):=⟨_,rfl⟩
        rw [HRQ.out] at HFIN HSP HBF HRN
        clear HRK HRQ
        have HRT:Hid (∀ (k:Nat) p,rk[k]? = some p→(rk.map ruleTx)[k]? = some (ruleTx p)):=fun k p h=>by rw [List.getElem?_map,h]; rfl
        have hrl:(rk.map ruleTx).length=rk.length:=List.length_map _
        obtain ⟨rs,HRS⟩:∃ rs,Hid (rk.map ruleTx=rs):=⟨_,rfl⟩
        rw [HRS.out] at HRT HSP hrl
        have HRL:=Lib.hid hrl
        have HCT:=Lib.hid (fun (p:Pr) (h:before 32 (ruleTx p)=p.1.length∧p.1.length≤10∧p.2.length≤10) w' (k:Kept w w')=>cut_rule p w' (hg.kept k) h.1 h.2.1 h.2.2)
        clear hrl HRS
        unfold allEs at HSP
        go_wp2_with fail
        refine HSP.out.mono ?_
        rintro e w1 ⟨rfl,rfl⟩
        have hka:=kept_alloc wr (.cells (strCells rs).toArray 9)
        have HSB:=Lib.hid (Blk.new wr 9 (strCells rs).toArray)
        have HST1:=Lib.hid (HST.out.kept hka)
        have HON1:Hid (Only (fun g=>g=B+1∨B+2≤g) w0 _):=HON.out.trans (Only.of_kept hka)
        have HSB2:Hid (B+2≤wr.heap.size):=by show _≤_; omega
        generalize wr.alloc (.cells (strCells rs).toArray 9)=w1 at *
        generalize wr.heap.size=S at *
        clear HSP hka HST HON HRR HCB HOO HOL hcz hrz HKW
        go_wp2_with fail
        go_loopw [64] (fun i wx=>∃ (k:Nat),k≤rs.length∧i=.int .i64 k∧Hid (ColSt wx (B+1) (B+2) ⟨rk.take k,ds,[]⟩)∧Hid (Blk wx S 9 (strCells rs).toArray)∧Hid (Only (fun g=>g=B+1∨B+2≤g) w0 wx)) (fun i _=>rs.length - (intOf i).toNat)
        case atStart=>exact ⟨0,Nat.zero_le _,rfl,HST1.out,HSB.out,HON1.out⟩
        case round =>
         clear HST1 HSB HON1
         obtain ⟨k,hk,rfl,HST,HSB,HON⟩:=hrel
         have HKW:Hid (Kept w wr):=HK0.out.trans' (HON.out.below HK0.out.size (fun i e=>by omega))
         by_cases hlt:k<rs.length
         ·obtain ⟨q,hx⟩:∃ x,rk[k]? = some x:=⟨_,List.getElem?_eq_getElem (by have:=HRL.out; omega)⟩
          have hqr:=HRT.out k q hx
          have hrs28:rs.length≤28:=by have h1:=HRL.out; have h2:=HRN.out; omega
          have HTK:=Lib.hid (take_pr hx)
          have hbf:=HBF.out q (List.mem_of_getElem? hx)
          have HCQ:=Lib.hid (fun w' (kk:Kept wr w')=>HCT.out q hbf w' (HKW.out.trans kk))
          have d0:wr.cell? ⟨S,k,none⟩=some (.string (bs (ruleTx q))):=HSB.out.cell k _ (by rw [List.getElem?_toArray]; unfold strCells; rw [List.getElem?_map,hqr]; rfl)
          have sz:=HSB.out.lt
          have hul:(rk.take k).length≤28:=by have:=HRN.out; rw [List.length_take]; omega
          obtain ⟨us,HUS⟩:∃ us,Hid (rk.take k=us):=⟨_,rfl⟩
          rw [HUS.out] at HST HTK hul
          obtain ⟨rt,HRTX⟩:∃ rt,Hid (ruleTx q=rt):=⟨_,rfl⟩
          rw [HRTX.out] at d0 HCQ
          obtain ⟨q1,q2⟩:=q
          simp only at HCQ
          clear hx hqr HUS HRTX hbf
          go_wp2_with fail
          refine (HCQ.out wr (Kept.refl _)).mono ?_
          rintro e w2 ⟨rfl,n2,rfl⟩
          have hkd:=kept_drewN wr n2
          have HST2:=Lib.hid (HST.out.kept hkd)
          have HSB2':=Lib.hid (HSB.out.kept hkd)
          have HON2:Hid (Only (fun g=>g=B+1∨B+2≤g) w0 _):=HON.out.trans (Only.of_kept hkd)
          generalize wr.drewN n2=w2 at *
          clear d0 sz HST HSB HON hkd HCQ
          obtain ⟨vR,vO,hb,hR,hO⟩:=HST2.out
          have HBB:=Lib.hid hb
          have HR:=Lib.hid hR
          have HO:=Lib.hid hO
          have hz:=hb.lt
          obtain ⟨aR',cR',hvR,_,_,_⟩:=own_cap hR
          have hvR':vR=.slice aR' us.length cR':=hvR
          subst hvR'
          have c1:w2.cell? ⟨B+1,0,none⟩=some (.slice aR' us.length cR'):=hb.cell 0 _ rfl
          have hbs:B+2≤w2.heap.size:=by omega
          have hka:=kept_alloc w2 (.cells #[.string (bs q1),.string (bs q2)] 62)
          have HN2:=Lib.hid (Blk.new w2 62 #[.string (bs q1),.string (bs q2)])
          have HB2:=Lib.hid (HBB.out.kept hka)
          have HR2:=Lib.hid (own_kept HR.out hka)
          have HO2:=Lib.hid (own_kept HO.out hka)
          have HS2:=Lib.hid (HSB2'.out.kept hka)
          have HK2:=Lib.hid hka
          have hb2:=Nat.le_trans hbs hka.size
          clear hka hb hR hO HBB HR HO HST2 HSB2'
          go_wp2_with (first
           | (refine wpList_append_pr _ rfl (.tmp 75) (.tmp 79) rfl (B+2) _ us (by rfl) HR2.out (q1,q2) _ (by rfl) HN2.out (by omega) hb2 ?_; intro v' w3 hown3 hgrow3; have hb3:=(hgrow3.block (B+1) HB2.out.lt (own_no_blk HR2.out HB2.out (by decide))).trans HB2.out; have f3:w3.frozen? ⟨B+1,0,none⟩=false:=(show Blk w3 (B+1) 88 _ from hb3).free 0; have c3:w3.cell? ⟨B+1,0,none⟩=some (.slice aR' us.length cR'):=(show Blk w3 (B+1) 88 _ from hb3).cell 0 _ rfl; have z3:=(show Blk w3 (B+1) 88 _ from hb3).lt; have HG3:=Lib.hid hgrow3; have HO3:=Lib.hid hown3; obtain ⟨a3,c3',rfl,_,_,_⟩:=own_cap hown3; have HS3:Hid (Blk w3 S 9 (strCells rs).toArray):=(hgrow3.block S HS2.out.lt (own_no_blk HR2.out HS2.out (by decide))).trans HS2.out; clear hgrow3 hown3 hb3))
          have hS:=st_ranks (c:=⟨us,ds,[]⟩) (ps:=[(q1,q2)]) HB2.out HR2.out HO2.out HO3.out HG3.out
          have hln:(us ++ [(q1,q2)]).length=us.length+1:=by rw [List.length_append]; rfl
          simp only [hln] at hS
          have hS1:ColSt _ (B+1) (B+2) ⟨us ++ [(q1,q2)],ds,[]⟩:=hS.1
          rw [← HTK.out] at hS1
          have HS4:=Lib.hid hS1
          have HS5:=Lib.hid ((HON2.out.trans (Only.of_kept HK2.out)).trans hS.2)
          have hsb:=HSB2.out
          have HS6:=Lib.hid (HS3.out.onl (Only.setCell (B+1) 0 (.slice a3 (us.length+1) c3')) (by omega))
          clear hS hS1 HB2 HR2 HO2 HO3 HG3 HN2 HK2 c1 f3 c3 z3 HS2 HS3 HON2 hln
          go_wp2_with fail
          go_roundw
          case rel=>exact ⟨k+1,by omega,by go_num,HS4.out,HS6.out,HS5.out⟩
          case measure=>simp [intOf]; omega
         ·have hke:k=rk.length:=by have:=HRL.out; omega
          rw [hke,List.take_length] at HST
          have HRR:=Lib.hid (HRB.out.onl HON.out (by omega))
          obtain ⟨vR,vO,hb,hR,hO⟩:=HST.out
          have HCB:=Lib.hid hb
          have HPR:Hid (Prs wr vR rk):=Prs.own hR
          have HOO:Hid (Strs wr vO ds):=Strs.own hO
          have HOL:Hid (∀ g,vO.ownBlock=some g→B+2≤g∧g<wr.heap.size):=fun g q=>hO.lt g q
          have HRL2:Hid (∀ g,vR.ownBlock=some g→B+2≤g∧g<wr.heap.size):=fun g q=>hR.lt g q
          obtain ⟨aO,cO,rfl,_,_,_⟩:=own_cap hO
          obtain ⟨aR,cR,hvR,_,_,_⟩:=own_cap hR
          have hvR':vR=.slice aR rk.length cR:=hvR
          subst hvR'
          have hcz:=hb.lt
          have hrz:=HRR.out.lt
          clear hb hR hO HST HON HSB HRL hke
          go_wp2_with (first
           | (refine wpList_load_blk (by rfl) 88 (.tmp 3) (by rfl) (B+1) _ (by rfl) HCB.out _ Tryz.underlying88 rfl Tryz.sizeCo ?_)
           | (refine wpList_store_blk rfl 88 (.tmp 2) (.tmp 83) (by rfl) B _ #[.slice aR rk.length cR,.slice aO ds.length cO,.string (bs [])] (by rfl) (by rfl) HRR.out rfl Tryz.sizeCo (by simp only [List.all_toArray,List.all_cons,List.all_nil]; rfl) ?_; intro w9 hb9 ho9; have r0:w9.cell? ⟨B,0,none⟩=some (.slice aR rk.length cR):=hb9.cell 0 _ rfl; have r1:w9.cell? ⟨B,1,none⟩=some (.slice aO ds.length cO):=hb9.cell 1 _ rfl; have r2:w9.cell? ⟨B,2,none⟩=some (.string (bs [])):=hb9.cell 2 _ rfl; have rz:=hb9.lt; have HO9:=Lib.hid ho9; clear hb9 ho9))
          refine bodyPost_ret (v:=colV (.slice aR rk.length cR) (.slice aO ds.length cO) []) ?_ rfl (HFIN.out (.slice aR rk.length cR) (.slice aO ds.length cO) w9 ⟨?_,?_⟩ ?_ ?_ ?_)
          ·simp [results,Tryz.results38,go_sem,r0,r1,r2,rz]
          ·exact HPR.out.onlS (S:=fun g=>B+2≤g) (fun _ g q=>(HRL2.out g q).1) HO9.out (fun g _ hs q=>by omega)
          ·exact HOO.out.onlS (S:=fun g=>B+2≤g) (fun _ g q=>(HOL.out g q).1) HO9.out (fun g _ hs q=>by omega)
          ·exact fun _ g q=>by have:=(HRL2.out g q).1; omega
          ·exact fun _ g q=>by have:=(HOL.out g q).1; omega
          ·exact HKW.out.trans' (HO9.out.below HKW.out.size (fun i e=>by omega))
       ·have n3:(lang == [101,115])=false:=by rw [beq_eq_false_iff_ne]; exact h3
        have HRK:Hid (rkL lang=[]):=by
         show _=_
         unfold rkL
         rw [if_neg h1,if_neg h2,if_neg h3]
        rw [HRK.out] at HFIN
        go_wp2_with (first
         | (refine wpList_load_blk (by rfl) 88 (.tmp 3) (by rfl) (B+1) _ (by rfl) HCB.out _ Tryz.underlying88 rfl Tryz.sizeCo ?_)
         | (refine wpList_store_blk rfl 88 (.tmp 2) (.tmp 54) (by rfl) B _ #[.slice aR 0 cR,.slice aO ds.length cO,.string (bs [])] (by rfl) (by rfl) HRR.out rfl Tryz.sizeCo (by simp only [List.all_toArray,List.all_cons,List.all_nil]; rfl) ?_; intro w9 hb9 ho9; have r0:w9.cell? ⟨B,0,none⟩=some (.slice aR 0 cR):=hb9.cell 0 _ rfl; have r1:w9.cell? ⟨B,1,none⟩=some (.slice aO ds.length cO):=hb9.cell 1 _ rfl; have r2:w9.cell? ⟨B,2,none⟩=some (.string (bs [])):=hb9.cell 2 _ rfl; have rz:=hb9.lt; have HO9:=Lib.hid ho9; clear hb9 ho9))
        have HRX:=HRR.out
        refine bodyPost_ret (v:=colV (.slice aR 0 cR) (.slice aO ds.length cO) []) ?_ rfl (HFIN.out (.slice aR 0 cR) (.slice aO ds.length cO) w9 ⟨?_,?_⟩ ?_ ?_ ?_)
        ·simp [results,Tryz.results38,go_sem,r0,r1,r2,rz]
        ·exact ⟨aR,cR,rfl,Nat.zero_le _,fun h=>absurd h (by simp)⟩
        ·exact HOO.out.onlS (S:=fun g=>B+2≤g) (fun _ g q=>(HOL.out g q).1) HO9.out (fun g _ hs q=>by omega)
        ·exact fun h=>absurd h (by simp)
        ·exact fun _ g q=>by have:=(HOL.out g q).1; omega
        ·exact HKW.out.trans' (HO9.out.below HKW.out.size (fun i e=>by omega))
end Go.Proofs.YtmcoomlkbgiboaaGreatDoor

/- Is a text in a list; how often; are lists of texts equal (ref32 has, count; law32 texts). Conditions: lengths. -/
set_option linter.all false
namespace Go.Proofs.YtmcoomlkbgiboaaGreatDoor
open Go.RowKit

theorem take_not {α:Type} {l:List α} {k:Nat} {y x:α} (h:l[k]? = some y) (h1:x ∉ l.take k) (h2:y≠x):x ∉ l.take (k+1):=by
 rw [List.take_succ,h]
 intro q
 rcases List.mem_append.1 q with q | q
 ·exact h1 q
 ·simp at q; exact h2 q.symm
set_option maxRecDepth 100000 in
set_option maxHeartbeats 1600000 in
theorem rhas32_any (v:Value) (ks:List Bs) (x:Bs) (w:World) (hv:Strs w v ks) (hl:ks.length≤1000000) :
  Calls Tryz.prog 33 #[v,.string (bs x)] w fun e w'=>e=.returned (.bool (ks.contains x))∧Kept w w':=by
 have HV:=Lib.hid hv
 obtain ⟨a,c,rfl,hc⟩:=hv.shape
 have HT:Hid (x∈ks→ks.contains x=true):=fun h=>List.contains_iff_mem.2 h
 have HN:Hid (x ∉ ks→ks.contains x=false):=fun h=>by
  rw [← Bool.not_eq_true]; exact fun q=>h (List.contains_iff_mem.1 q)
 generalize ks.contains x=R at *
 clear hv
 go_enter Tryz.func33,Tryz.ntmps33
 go_wp2_with fail
 go_loopw [5] (fun i wr=>∃ k:Nat,k≤ks.length∧i=.int .i64 k∧Hid (x ∉ ks.take k)∧Hid (Kept w wr)) (fun i _=>ks.length - (intOf i).toNat)
 case atStart=>exact ⟨0,Nat.zero_le _,rfl,(by show x ∉ ks.take 0; simp),Kept.refl _⟩
 case round =>
  obtain ⟨k,hk,rfl,HX,HKR⟩:=hrel
  by_cases hlt:k<ks.length
  ·obtain ⟨z,hx⟩:∃ z,ks[k]? = some z:=⟨_,List.getElem?_eq_getElem hlt⟩
   obtain ⟨g,o,rfl,hg,d0,-,-⟩:=(HV.out.kept HKR.out).cell_of k z hx
   by_cases hz:z=x
   ·obtain rfl:=HT.out (by rw [← hz]; exact List.mem_of_getElem? hx)
    subst hz
    clear hx HX HT HN
    go_wp2_with fail
    go_ret
    exact ⟨rfl,HKR.out⟩
   ·have HX2:=Lib.hid (take_not hx HX.out hz)
    have hzb:(z == x)=false:=by rw [beq_eq_false_iff_ne]; exact hz
    clear hx HX
    go_wp2_with fail
    go_roundw
    case rel=>exact ⟨k+1,by omega,by go_num,HX2.out,HKR.out⟩
    case measure=>simp [intOf]; omega
  ·obtain rfl:k=ks.length:=by omega
   obtain rfl:=HN.out (by have:=HX.out; rwa [List.take_length] at this)
   clear HX HT HN
   go_wp2_with fail
   go_ret
   exact ⟨rfl,HKR.out⟩
theorem count_take {l:List Bs} {k:Nat} {y x:Bs} (h:l[k]? = some y):(l.take (k+1)).count x=(l.take k).count x+(if (y == x)=true then 1 else 0):=by
 rw [List.take_succ,h,List.count_append]
 congr 1
 show [y].count x=_
 rw [List.count_cons,List.count_nil,Nat.zero_add]
theorem take_eq_succ {α:Type} {a b:List α} {k:Nat} {x:α} (h1:a[k]? = some x) (h2:b[k]? = some x) (h:a.take k=b.take k):a.take (k+1)=b.take (k+1):=by
 rw [List.take_succ,List.take_succ,h,h1,h2]
theorem ne_at {α:Type} {a b:List α} {k:Nat} {x y:α} (h1:a[k]? = some x) (h2:b[k]? = some y) (h:x≠y):a≠b:=fun e=>by
 subst e; rw [h1] at h2; exact h (Option.some.inj h2)
set_option maxRecDepth 100000 in
set_option maxHeartbeats 1600000 in
theorem texts32_any (v v':Value) (xs ys:List Bs) (w:World) (hv:Strs w v xs) (hv':Strs w v' ys) (hl:xs.length≤1000000) (hl':ys.length≤1000000) :
  Calls Tryz.prog 11 #[v,v'] w fun e w'=>e=.returned (.bool (decide (xs=ys)))∧Kept w w':=by
 have HV:=Lib.hid hv
 have HV2:=Lib.hid hv'
 obtain ⟨a,c,rfl,hc⟩:=hv.shape
 obtain ⟨b,d,rfl,hd⟩:=hv'.shape
 have HT:Hid (xs=ys→decide (xs=ys)=true):=fun h=>decide_eq_true h
 have HN:Hid (xs≠ys→decide (xs=ys)=false):=fun h=>decide_eq_false h
 generalize decide (xs=ys)=R at *
 clear hv hv'
 by_cases hlen:xs.length=ys.length
 ·have hlb:((xs.length:Int) == (ys.length:Int))=true:=by simp [hlen]
  have hln:((xs.length:Int) != (ys.length:Int))=false:=by simp [hlen]
  have HL:=Lib.hid hlen
  clear hlen
  go_enter Tryz.func11,Tryz.ntmps11
  go_wp2_with fail
  go_loopw [5] (fun i wr=>∃ k:Nat,k≤xs.length∧i=.int .i64 k∧Hid (xs.take k=ys.take k)∧Hid (Kept w wr)) (fun i _=>xs.length - (intOf i).toNat)
  case atStart=>exact ⟨0,Nat.zero_le _,rfl,(by show xs.take 0=ys.take 0; simp),Kept.refl _⟩
  case round =>
   clear hlb hln
   obtain ⟨k,hk,rfl,HX,HKR⟩:=hrel
   by_cases hlt:k<xs.length
   ·have hlt2:k<ys.length:=by have:=HL.out; omega
    obtain ⟨x,hx⟩:∃ z,xs[k]? = some z:=⟨_,List.getElem?_eq_getElem hlt⟩
    obtain ⟨y,hy⟩:∃ z,ys[k]? = some z:=⟨_,List.getElem?_eq_getElem hlt2⟩
    obtain ⟨g,o,rfl,hg,d0,-,-⟩:=(HV.out.kept HKR.out).cell_of k x hx
    obtain ⟨g2,o2,rfl,hg2,e0,-,-⟩:=(HV2.out.kept HKR.out).cell_of k y hy
    by_cases hz:x=y
    ·subst hz
     have HX2:=Lib.hid (take_eq_succ hx hy HX.out)
     have hzb:(x != x)=false:=by simp
     clear hx hy HX
     go_wp2_with fail
     go_quiet (fail)
     go_wp2_with fail
     go_roundw
     case rel=>exact ⟨k+1,by omega,by go_num,HX2.out,HKR.out.trans (kept_drewN _ _)⟩
     case measure=>simp [intOf]; omega
    ·obtain rfl:=HN.out (ne_at hx hy hz)
     have hzb:(x == y)=false:=by rw [beq_eq_false_iff_ne]; exact hz
     have hzn:(x != y)=true:=by rw [bne_iff_ne]; exact hz
     clear hx hy HX
     go_wp2_with fail
     go_quiet (fail)
     go_wp2_with fail
     go_ret
     exact ⟨rfl,HKR.out.trans (kept_drewN _ _)⟩
   ·obtain rfl:k=xs.length:=by omega
    obtain rfl:=HT.out (by have:=HX.out; rwa [List.take_length,HL.out,List.take_length] at this)
    clear HX HT HN
    go_wp2_with fail
    go_ret
    exact ⟨rfl,HKR.out⟩
 ·have hlb:((xs.length:Int) == (ys.length:Int))=false:=by rw [beq_eq_false_iff_ne]; omega
  obtain rfl:=HN.out (fun e=>hlen (by rw [e]))
  go_enter Tryz.func11,Tryz.ntmps11
  go_wp2_with fail
  go_ret
  exact ⟨rfl,Kept.refl _⟩
end Go.Proofs.YtmcoomlkbgiboaaGreatDoor

/- (*reader).begin of package bib. Conditions: lengths. -/
set_option linter.all false
namespace Go.Proofs.YtmcoomlkbgiboaaGreatDoor
open Go.RowKit

def zeroS:SrcT:=⟨[],[],[],[],[]⟩
end Go.Proofs.YtmcoomlkbgiboaaGreatDoor

/- (*reader).line of package bib: the end of a source. Conditions: lengths. -/
set_option linter.all false
namespace Go.Proofs.YtmcoomlkbgiboaaGreatDoor
open Go.RowKit

def bTitle:Bs:=[116,105,116,108,101]
end Go.Proofs.YtmcoomlkbgiboaaGreatDoor
