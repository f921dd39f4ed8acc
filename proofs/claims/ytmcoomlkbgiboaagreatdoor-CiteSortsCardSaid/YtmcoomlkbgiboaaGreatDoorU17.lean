/- A collation in memory. No condition. -/
import Derived.Test.YtmcoomlkbgiboaaGreatDoorU14
import Derived.Test.YtmcoomlkbgiboaaGreatDoorU08
import Derived.Test.YtmcoomlkbgiboaaGreatDoorU16
import Derived.Test.YtmcoomlkbgiboaaGreatDoorU15

set_option linter.all false
namespace Go.Proofs.YtmcoomlkbgiboaaGreatDoor
open Go.RowKit

/-- The lists of a collation read in w. -/
def Col (w:World) (vR vO:Value) (c:ColT):Prop:=Prs w vR c.ranks∧Strs w vO c.order
theorem Col.kept {w w':World} {vR vO:Value} {c:ColT} (h:Col w vR vO c) (k:Kept w w'):Col w' vR vO c:=⟨h.1.kept k,h.2.kept k⟩
abbrev colV (vR vO:Value) (ig:Bs):Value:=.agg #[vR,vO,.string (bs ig)]
/-- Lengths that every walk over a collation bears. -/
def SmallC (c:ColT):Prop:=c.ranks.length≤1000∧c.order.length≤1000∧c.ignore.length≤1000∧(∀ s∈c.order,s.length≤1000)∧∀ p∈c.ranks,p.1.length≤1000∧p.2.length≤1000
end Go.Proofs.YtmcoomlkbgiboaaGreatDoor

/- The closure of collate.Check that puts the letters of a text to a set. Conditions: lengths. -/
set_option linter.all false
namespace Go.Proofs.YtmcoomlkbgiboaaGreatDoor
open Go.RowKit

theorem MapV.no_cell {w:World} {m:Nat} {es:List (Int × Value)} (h:MapV w m es) (o:Nat):w.cell? ⟨m,o,none⟩=none:=by unfold MapV at h; simp [World.cell?,h]
/-- Numbers in memory do not lie in a map's block. -/
theorem Ints.map {w w':World} {v:Value} {xs:List Int} {m:Nat} {es:List (Int × Value)} (h:Ints w v xs) (hm:MapV w m es) (k:Only (fun i=>i=m) w w'):Ints w' v xs:=by
 obtain ⟨a,c,hv,hc,h3⟩:=h
 refine ⟨a,c,hv,hc,fun q=>?_⟩
 obtain ⟨g,o,ha,hg,hcell⟩:=h3 q
 have hne:g≠m:=by
  rintro rfl
  have h0:=hcell 0 _ (List.getElem?_eq_getElem q)
  rw [hm.no_cell] at h0
  cases h0
 exact ⟨g,o,ha,Nat.lt_of_lt_of_le hg k.size,fun j x hx=>(k.cell g _ hg hne).trans (hcell j x hx)⟩
theorem Blk.onl {S:Nat→Prop} {w w':World} {g:Nat} {t:TypeId} {cs:Array Value} (h:Blk w g t cs) (k:Only S w w') (hs:¬ S g):Blk w' g t cs:=(k.block g h.lt hs).trans h
theorem Blk.no_map {w:World} {g m:Nat} {t:TypeId} {cs:Array Value} {es:List (Int × Value)} (h:Blk w g t cs) (hm:MapV w m es):g≠m:=by
 rintro rfl
 unfold Blk at h
 unfold MapV at hm
 rw [h] at hm
 cases hm
theorem Tryz.zeroBool (w:World):(zeroValue 4).run Tryz.prog w=.ok (.bool false) w:=by kernel_rfl
end Go.Proofs.YtmcoomlkbgiboaaGreatDoor

/- Check of collate. Conditions: lengths. -/
set_option linter.all false
namespace Go.Proofs.YtmcoomlkbgiboaaGreatDoor
open Go.RowKit

theorem Strs.cell_of {w:World} {a:Option Addr} {n c:Nat} {xs:List Bs} (h:Strs w (.slice a n c) xs) (k:Nat) (x:Bs) (hx:xs[k]? = some x):∃ g o,a=some ⟨g,o,none⟩∧g<w.heap.size∧w.cell? ⟨g,o+k,none⟩=some (.string (bs x))∧n=xs.length∧xs.length≤c:=by
 obtain ⟨a',c',hv,hc,h3⟩:=h
 obtain ⟨rfl,rfl,rfl⟩:=Value.slice.inj hv
 obtain ⟨hk,_⟩:=List.getElem?_eq_some_iff.1 hx
 obtain ⟨g,o,ha,hg,hcell⟩:=h3 (by omega)
 exact ⟨g,o,ha,hg,hcell k x hx,rfl,hc⟩
theorem Prs.cell_of {w:World} {a:Option Addr} {n c:Nat} {ps:List Pr} (h:Prs w (.slice a n c) ps) (k:Nat) (p:Pr) (hx:ps[k]? = some p):∃ g o,a=some ⟨g,o,none⟩∧g<w.heap.size∧w.cell? ⟨g,o+k * 2,none⟩=some (.string (bs p.1))∧w.cell? ⟨g,o+k * 2+1,none⟩=some (.string (bs p.2))∧n=ps.length∧ps.length≤c:=by
 obtain ⟨a',c',hv,hc,h3⟩:=h
 obtain ⟨rfl,rfl,rfl⟩:=Value.slice.inj hv
 obtain ⟨hk,_⟩:=List.getElem?_eq_some_iff.1 hx
 obtain ⟨g,o,ha,hg,hcell⟩:=h3 (by omega)
 obtain ⟨h0,h1⟩:=hcell k p hx
 exact ⟨g,o,ha,hg,h0,h1,rfl,hc⟩
theorem Strs.form {w:World} {v:Value} {xs:List Bs} (h:Strs w v xs):∃ a c,v=.slice a xs.length c∧xs.length≤c:=by
 obtain ⟨a,c,hv,hc,_⟩:=h; exact ⟨a,c,hv,hc⟩
theorem Prs.form {w:World} {v:Value} {ps:List Pr} (h:Prs w v ps):∃ a c,v=.slice a ps.length c∧ps.length≤c:=by
 obtain ⟨a,c,hv,hc,_⟩:=h; exact ⟨a,c,hv,hc⟩
theorem Ints.form {w:World} {v:Value} {ps:List Int} (h:Ints w v ps):∃ a c,v=.slice a ps.length c∧ps.length≤c:=by
 obtain ⟨a,c,hv,hc,_⟩:=h; exact ⟨a,c,hv,hc⟩
theorem Ints.cell_of {w:World} {a:Option Addr} {n c:Nat} {xs:List Int} (h:Ints w (.slice a n c) xs) (k:Nat) (x:Int) (hx:xs[k]? = some x):∃ g o,a=some ⟨g,o,none⟩∧g<w.heap.size∧w.cell? ⟨g,o+k,none⟩=some (.int .i64 x):=by
 obtain ⟨a',c',hv,hc,h3⟩:=h
 obtain ⟨rfl,rfl,rfl⟩:=Value.slice.inj hv
 obtain ⟨hk,_⟩:=List.getElem?_eq_some_iff.1 hx
 obtain ⟨g,o,ha,hg,hcell⟩:=h3 (by omega)
 exact ⟨g,o,ha,hg,hcell k x hx⟩
theorem only_kept {m:Nat} {a b c:World} (h:Kept a b) (k:Only (fun i=>i=m) b c) (hm:a.heap.size≤m):Kept a c:=h.trans' (k.below h.size (fun i e=>e ▸ hm))

end Go.Proofs.YtmcoomlkbgiboaaGreatDoor

/- free of style. Conditions: lengths. -/
set_option linter.all false
namespace Go.Proofs.YtmcoomlkbgiboaaGreatDoor
open Go.RowKit

/-- The groups of the fields that are not of a name. -/
def othG (ps:List Pc) (key:Bs):List Int:=(ps.filter fun p=>p.fld && (!(p.txt == key) && !(p.grp == 0))).map fun p=>(p.grp:Int)
def freeB (ps:List Pc) (key:Bs):Bool:=ps.any fun p=>p.fld && ((p.txt == key) && !((othG ps key).contains (p.grp:Int)))
theorem othG_snoc (ps:List Pc) (key:Bs) (p:Pc):othG (ps ++ [p]) key=othG ps key ++ (if (p.fld && (!(p.txt == key) && !(p.grp == 0)))=true then [(p.grp:Int)] else []):=by
 unfold othG
 rw [List.filter_append,List.map_append]
 by_cases h:(p.fld && (!(p.txt == key) && !(p.grp == 0)))=true
 ·rw [if_pos h]; simp [h]
 ·rw [if_neg h]; simp [h]
set_option maxRecDepth 100000 in
set_option maxHeartbeats 6400000 in
theorem sfree_any (v:Value) (ps:List Pc) (key:Bs) (w:World) (hv:Pcs w v ps) (hl:ps.length≤1000000):Calls Tryz.prog 132 #[v,.string (bs key)] w fun e w'=>e=.returned (.bool (freeB ps key))∧Kept w w':=by
 have HV:=Lib.hid hv
 obtain ⟨a,c,rfl,hc⟩:=hv.form
 clear hv
 have HTK:Hid (∀ k (hk:k<ps.length),othG (ps.take (k+1)) key=othG (ps.take k) key ++ (if (ps[k].fld && (!(ps[k].txt == key) && !(ps[k].grp == 0)))=true then [(ps[k].grp:Int)] else [])):=fun k hk=>by
  rw [List.take_succ_eq_append_getElem hk,othG_snoc]
 have HF:Hid (∀ k (hk:k<ps.length),(ps[k].fld && ((ps[k].txt == key) && !((othG ps key).contains (ps[k].grp:Int))))=true→freeB ps key=true):=fun k hk h =>
  List.any_eq_true.2 ⟨ps[k],List.getElem_mem hk,h⟩
 have HT:Hid ((∀ k (hk:k<ps.length),(ps[k].fld && ((ps[k].txt == key) && !((othG ps key).contains (ps[k].grp:Int))))=false)→freeB ps key=false):=fun h=>by
  unfold freeB
  rw [List.any_eq_false]
  intro p hp
  obtain ⟨k,hk,e⟩:=List.getElem_of_mem hp
  have:=h k hk
  rw [e] at this
  rw [this]; simp
 have HO0:Hid (othG (ps.take 0) key=[]):=rfl
 have HON:Hid (othG (ps.take ps.length) key=othG ps key):=by show _=_; rw [List.take_of_length_le (Nat.le_refl _)]
 generalize freeB ps key=R at *
 have mk:=fun w=>run_makeMap (P:=Tryz.prog) 116 w
 go_enter Tryz.func132,Tryz.ntmps132
 go_wp2_with fail
 have HM0:=Lib.hid (MapV.made w)
 have HK0:=Lib.hid (kept_alloc w (.map #[] 0))
 generalize w.alloc (.map #[] 0)=w0 at *
 obtain ⟨M,HMM⟩:∃ M,Hid (w.heap.size=M):=⟨_,rfl⟩
 have hMz:w.heap.size≤M:=by rw [HMM.out]; exact Nat.le_refl _
 rw [HMM.out] at HM0 ⊢
 go_loopw [13] (fun i wr=>∃ k:Nat,k≤ps.length∧i=.int .i64 k∧Hid (MapV wr M (setV (othG (ps.take k) key)))∧Hid (Kept w wr)) (fun i _=>ps.length - (intOf i).toNat)
 case atStart=>exact ⟨0,Nat.zero_le _,rfl,HM0.out,HK0.out⟩
 case round =>
  obtain ⟨k,hk,rfl,HM,HKR⟩:=hrel
  by_cases hlt:k<ps.length
  ·have hx:=List.getElem?_eq_getElem hlt
   obtain ⟨g,o,rfl,hg,d0,d1,d2⟩:=(HV.out.kept HKR.out).cell_of k _ hx
   have HST:=Lib.hid (HTK.out k hlt)
   generalize ps[k]=p at *
   obtain ⟨x,f,gr⟩:=p
   simp only at d0 d1 d2 HST
   have up:∀ w',MapV w' M (setV (othG (ps.take k) key))→othG (ps.take (k+1)) key=othG (ps.take k) key ++ [(gr:Int)]→(Instr.mapUpdate 116 (.map (some M)) (.int .i64 gr) (.bool true)).run Tryz.prog w'=.ok () (putV w' M (setV (othG (ps.take (k+1)) key))):=by
    intro w' hm he
    rw [he]
    cases hgv:getV (setV (othG (ps.take k) key)) (gr:Int) with
    | none =>
     rw [setV_snoc,hgv]
     exact insV (P:=Tryz.prog) Tryz.underlying116 Tryz.underlying3 w' _ _ gr (.bool true) hm hgv
    | some u =>
     have hu:u=.bool true:=by
      have:=setV_is (othG (ps.take k) key) gr
      rw [hgv] at this
      split at this
      ·exact Option.some.inj this
      ·cases this
     subst hu
     rw [setV_snoc,hgv]
     exact againV (P:=Tryz.prog) Tryz.underlying116 Tryz.underlying3 w' _ _ gr (.bool true) hm hgv
   have UP:=Lib.hid up
   clear hx up
   by_cases hc1:(f && (!(x == key) && !(gr == 0)))=true
   ·simp only [Bool.and_eq_true,Bool.not_eq_true'] at hc1
    obtain ⟨rfl,h2,h3⟩:=hc1
    rw [h2,h3,if_pos (by rfl)] at HST
    have h3':((gr:Int) == 0)=false:=by
     rw [beq_eq_false_iff_ne]; intro q
     rw [beq_eq_false_iff_ne] at h3
     omega
    have HM2:=Lib.hid (HM.out.kept (kept_alloc wr (.cells #[.string (bs x),.bool true,.int .i64 gr] 118)))
    have up:=UP.out _ HM2.out HST.out
    have HM3:=Lib.hid (putV_map _ _ (setV (othG (ps.take (k+1)) key)) HM2.out.lt)
    have HO3:=Lib.hid (putV_only (wr.alloc (.cells #[.string (bs x),.bool true,.int .i64 gr] 118)) M (setV (othG (ps.take (k+1)) key)))
    have HK3:=Lib.hid (only_kept (HKR.out.trans (kept_alloc wr (.cells #[.string (bs x),.bool true,.int .i64 gr] 118))) HO3.out hMz)
    go_wp2_with fail
    go_roundw
    case rel=>exact ⟨k+1,by omega,by go_num,HM3.out,HK3.out⟩
    case measure=>simp [intOf]; omega
   ·have HST2:Hid (othG (ps.take (k+1)) key=othG (ps.take k) key):=by
     show _=_
     rw [HST.out,if_neg hc1,List.append_nil]
    cases f with
    | false =>
     clear hc1
     have HM2:=Lib.hid (HM.out.kept (kept_alloc wr (.cells #[.string (bs x),.bool false,.int .i64 gr] 118)))
     have HK2:=Lib.hid (HKR.out.trans (kept_alloc wr (.cells #[.string (bs x),.bool false,.int .i64 gr] 118)))
     rw [← HST2.out] at HM2
     clear UP HM HKR HST
     go_wp2_with fail
     go_roundw
     case rel=>exact ⟨k+1,by omega,by go_num,HM2.out,HK2.out⟩
     case measure=>simp [intOf]; omega
    | true =>
     cases hx1:(x == key) with
     | true =>
      obtain rfl:x=key:=by simpa using hx1
      clear hc1 hx1
      have HM2:=Lib.hid (HM.out.kept (kept_alloc wr (.cells #[.string (bs x),.bool true,.int .i64 gr] 118)))
      have HK2:=Lib.hid (HKR.out.trans (kept_alloc wr (.cells #[.string (bs x),.bool true,.int .i64 gr] 118)))
      rw [← HST2.out] at HM2
      clear UP HM HKR HST
      go_wp2_with fail
      go_roundw
      case rel=>exact ⟨k+1,by omega,by go_num,HM2.out,HK2.out⟩
      case measure=>simp [intOf]; omega
     | false =>
      have h3:(gr == 0)=true:=by
       rw [hx1] at hc1
       simpa using hc1
      obtain rfl:gr=0:=by simpa using h3
      clear hc1 h3
      have HM2:=Lib.hid (HM.out.kept (kept_alloc wr (.cells #[.string (bs x),.bool true,.int .i64 (0:Nat)] 118)))
      have HK2:=Lib.hid (HKR.out.trans (kept_alloc wr (.cells #[.string (bs x),.bool true,.int .i64 (0:Nat)] 118)))
      rw [← HST2.out] at HM2
      clear UP HM HKR HST
      go_wp2_with fail
      go_roundw
      case rel=>exact ⟨k+1,by omega,by go_num,HM2.out,HK2.out⟩
      case measure=>simp [intOf]; omega
  ·obtain rfl:k=ps.length:=by omega
   rw [HON.out] at HM
   have HM1:=Lib.hid HM.out
   have HK1:=Lib.hid HKR.out
   clear HM HKR HTK HON HO0 hlt
   go_wp2_with fail
   go_loopw [36] (fun i wr=>∃ k:Nat,k≤ps.length∧i=.int .i64 k∧Hid (∀ j (hj:j<ps.length),j<k→(ps[j].fld && ((ps[j].txt == key) && !((othG ps key).contains (ps[j].grp:Int))))=false)∧Hid (MapV wr M (setV (othG ps key)))∧Hid (Kept w wr)) (fun i _=>ps.length - (intOf i).toNat)
   case atStart=>exact ⟨0,Nat.zero_le _,rfl,fun j hj h=>by omega,HM1.out,HK1.out⟩
   case round =>
    clear HM1 HK1
    obtain ⟨k,hk,rfl,HN,HM,HKR⟩:=hrel
    by_cases hlt:k<ps.length
    ·have hx:=List.getElem?_eq_getElem hlt
     obtain ⟨g,o,rfl,hg,d0,d1,d2⟩:=(HV.out.kept HKR.out).cell_of k _ hx
     have HYES:=Lib.hid (HF.out k hlt)
     have HNX:Hid ((ps[k].fld && ((ps[k].txt == key) && !((othG ps key).contains (ps[k].grp:Int))))=false→∀ j (hj:j<ps.length),j<k+1→(ps[j].fld && ((ps[j].txt == key) && !((othG ps key).contains (ps[j].grp:Int))))=false):=by
      intro h j hj hjk
      rcases Nat.lt_or_ge j k with q | q
      ·exact HN.out j hj q
      ·obtain rfl:j=k:=by omega
       exact h
     clear hx
     generalize ps[k]=p at d0 d1 d2 HYES HNX
     obtain ⟨x,f,gr⟩:=p
     simp only at d0 d1 d2 HYES HNX
     cases f with
     | false =>
      have HNO:=Lib.hid (HNX.out rfl)
      have HM2:=Lib.hid (HM.out.kept (kept_alloc wr (.cells #[.string (bs x),.bool false,.int .i64 gr] 118)))
      have HK2:=Lib.hid (HKR.out.trans (kept_alloc wr (.cells #[.string (bs x),.bool false,.int .i64 gr] 118)))
      have lk:=lookV (P:=Tryz.prog) Tryz.underlying116 Tryz.underlying3 (wr.alloc (.cells #[.string (bs x),.bool false,.int .i64 gr] 118)) M (setV (othG ps key)) (gr:Int) (.bool false) (Tryz.zeroBool _) HM2.out
      rw [setV_has] at lk
      clear HM HKR
      go_wp2_with fail
      go_roundw
      case rel=>exact ⟨k+1,by omega,by go_num,HNO.out,HM2.out,HK2.out⟩
      case measure=>simp [intOf]; omega
     | true =>
      cases hx1:(x == key) with
      | false =>
       have HNO:=Lib.hid (HNX.out (by rw [hx1]; rfl))
       have HM2:=Lib.hid (HM.out.kept (kept_alloc wr (.cells #[.string (bs x),.bool true,.int .i64 gr] 118)))
       have HK2:=Lib.hid (HKR.out.trans (kept_alloc wr (.cells #[.string (bs x),.bool true,.int .i64 gr] 118)))
       have lk:=lookV (P:=Tryz.prog) Tryz.underlying116 Tryz.underlying3 (wr.alloc (.cells #[.string (bs x),.bool true,.int .i64 gr] 118)) M (setV (othG ps key)) (gr:Int) (.bool false) (Tryz.zeroBool _) HM2.out
       rw [setV_has] at lk
       clear HM HKR
       go_wp2_with fail
       go_roundw
       case rel=>exact ⟨k+1,by omega,by go_num,HNO.out,HM2.out,HK2.out⟩
       case measure=>simp [intOf]; omega
      | true =>
       cases hct:(othG ps key).contains (gr:Int) with
       | true =>
        have HNO:=Lib.hid (HNX.out (by rw [hx1,hct]; rfl))
        obtain rfl:x=key:=by simpa using hx1
        have HM2:=Lib.hid (HM.out.kept (kept_alloc wr (.cells #[.string (bs x),.bool true,.int .i64 gr] 118)))
        have HK2:=Lib.hid (HKR.out.trans (kept_alloc wr (.cells #[.string (bs x),.bool true,.int .i64 gr] 118)))
        have lk:=lookV (P:=Tryz.prog) Tryz.underlying116 Tryz.underlying3 (wr.alloc (.cells #[.string (bs x),.bool true,.int .i64 gr] 118)) M (setV (othG ps x)) (gr:Int) (.bool false) (Tryz.zeroBool _) HM2.out
        rw [setV_has] at lk
        rw [hct] at lk
        clear hct hx1
        clear HM HKR
        go_wp2_with fail
        go_roundw
        case rel=>exact ⟨k+1,by omega,by go_num,HNO.out,HM2.out,HK2.out⟩
        case measure=>simp [intOf]; omega
       | false =>
        have HR:=Lib.hid (HYES.out (by rw [hx1,hct]; rfl))
        obtain rfl:x=key:=by simpa using hx1
        have HM2:=Lib.hid (HM.out.kept (kept_alloc wr (.cells #[.string (bs x),.bool true,.int .i64 gr] 118)))
        have HK2:=Lib.hid (HKR.out.trans (kept_alloc wr (.cells #[.string (bs x),.bool true,.int .i64 gr] 118)))
        have lk:=lookV (P:=Tryz.prog) Tryz.underlying116 Tryz.underlying3 (wr.alloc (.cells #[.string (bs x),.bool true,.int .i64 gr] 118)) M (setV (othG ps x)) (gr:Int) (.bool false) (Tryz.zeroBool _) HM2.out
        rw [setV_has,hct] at lk
        clear HM HKR hct hx1
        go_wp2_with fail
        go_ret
        exact ⟨ret_bool HR.out.symm,HK2.out⟩
    ·obtain rfl:k=ps.length:=by omega
     have HR:=Lib.hid (HT.out (fun k hk=>HN.out k hk hk))
     go_wp2_with fail
     go_ret
     exact ⟨ret_bool HR.out.symm,HKR.out⟩
end Go.Proofs.YtmcoomlkbgiboaaGreatDoor
