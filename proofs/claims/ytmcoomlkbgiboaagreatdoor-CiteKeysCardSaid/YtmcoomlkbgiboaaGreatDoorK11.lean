/- Check of collate. Conditions: lengths. -/
import Derived.Test.YtmcoomlkbgiboaaGreatDoorK10
import Derived.Test.YtmcoomlkbgiboaaGreatDoorK08
import Derived.Test.YtmcoomlkbgiboaaGreatDoorK04

set_option linter.all false
namespace Go.Proofs.YtmcoomlkbgiboaaGreatDoor
open Go.RowKit

theorem Strs.cell_of {w:World} {a:Option Addr} {n c:Nat} {xs:List Bs} (h:Strs w (.slice a n c) xs) (k:Nat) (x:Bs) (hx:xs[k]? = some x):∃ g o,a=some ⟨g,o,none⟩∧g<w.heap.size∧w.cell? ⟨g,o+k,none⟩=some (.string (bs x))∧n=xs.length∧xs.length≤c:=by
 obtain ⟨a',c',hv,hc,h3⟩:=h
 obtain ⟨rfl,rfl,rfl⟩:=Value.slice.inj hv
 obtain ⟨hk,_⟩:=List.getElem?_eq_some_iff.1 hx
 obtain ⟨g,o,ha,hg,hcell⟩:=h3 (by omega)
 exact ⟨g,o,ha,hg,hcell k x hx,rfl,hc⟩
theorem Prs.cell_of {w:World} {a:Option Addr} {n c:Nat} {ps:List Pr} (h:Prs w (.slice a n c) ps) (k:Nat) (p:Pr) (hx:ps[k]? = some p):∃ g o,a=some ⟨g,o,none⟩∧g<w.heap.size∧w.cell? ⟨g,o+k * 2,none⟩=some (.string (bs p.1))∧w.cell? ⟨g,o+k * 2+1,none⟩=some (.string (bs p.2))∧n=ps.length∧ps.length≤c:=by
 obtain ⟨a',c',hv,hc,h3⟩:=h
 obtain ⟨rfl,rfl,rfl⟩:=Value.slice.inj hv
 obtain ⟨hk,_⟩:=List.getElem?_eq_some_iff.1 hx
 obtain ⟨g,o,ha,hg,hcell⟩:=h3 (by omega)
 obtain ⟨h0,h1⟩:=hcell k p hx
 exact ⟨g,o,ha,hg,h0,h1,rfl,hc⟩
theorem Strs.form {w:World} {v:Value} {xs:List Bs} (h:Strs w v xs):∃ a c,v=.slice a xs.length c∧xs.length≤c:=by
 obtain ⟨a,c,hv,hc,_⟩:=h; exact ⟨a,c,hv,hc⟩
theorem Prs.form {w:World} {v:Value} {ps:List Pr} (h:Prs w v ps):∃ a c,v=.slice a ps.length c∧ps.length≤c:=by
 obtain ⟨a,c,hv,hc,_⟩:=h; exact ⟨a,c,hv,hc⟩
theorem Ints.form {w:World} {v:Value} {ps:List Int} (h:Ints w v ps):∃ a c,v=.slice a ps.length c∧ps.length≤c:=by
 obtain ⟨a,c,hv,hc,_⟩:=h; exact ⟨a,c,hv,hc⟩
theorem Ints.cell_of {w:World} {a:Option Addr} {n c:Nat} {xs:List Int} (h:Ints w (.slice a n c) xs) (k:Nat) (x:Int) (hx:xs[k]? = some x):∃ g o,a=some ⟨g,o,none⟩∧g<w.heap.size∧w.cell? ⟨g,o+k,none⟩=some (.int .i64 x):=by
 obtain ⟨a',c',hv,hc,h3⟩:=h
 obtain ⟨rfl,rfl,rfl⟩:=Value.slice.inj hv
 obtain ⟨hk,_⟩:=List.getElem?_eq_some_iff.1 hx
 obtain ⟨g,o,ha,hg,hcell⟩:=h3 (by omega)
 exact ⟨g,o,ha,hg,hcell k x hx⟩
theorem only_kept {m:Nat} {a b c:World} (h:Kept a b) (k:Only (fun i=>i=m) b c) (hm:a.heap.size≤m):Kept a c:=h.trans' (k.below h.size (fun i e=>e ▸ hm))

end Go.Proofs.YtmcoomlkbgiboaaGreatDoor

/- publisherref04.long: where it answers false, attributes are few and short. Conditions: lengths that a machine can tell. -/
set_option linter.all false
namespace Go.Proofs.YtmcoomlkbgiboaaGreatDoor
open Go.RowKit

def sumC (l:List Bs):Nat:=(l.map List.length).sum
def sumP (l:List Pr):Nat:=(l.map fun p=>p.1.length+p.2.length).sum
def okLong (id:Bs) (cls:List Bs) (prs:List Pr):Prop:=cls.length≤40∧prs.length≤40∧id.length+sumC cls+sumP prs≤600
def FitA (id:Bs) (cls:List Bs) (prs:List Pr):Prop:=id.length≤140737488355328∧cls.length≤140737488355328∧prs.length≤140737488355328∧(∀ s∈cls,s.length≤140737488355328)∧∀ p∈prs,p.1.length≤140737488355328∧p.2.length≤140737488355328
theorem sumC_snoc {l:List Bs} {k:Nat} {x:Bs} (h:l[k]? = some x):sumC (l.take (k+1))=sumC (l.take k)+x.length:=by
 unfold sumC; rw [take_snoc h,List.map_append,List.sum_append]; simp
theorem sumP_snoc {l:List Pr} {k:Nat} {x:Pr} (h:l[k]? = some x):sumP (l.take (k+1))=sumP (l.take k)+(x.1.length+x.2.length):=by
 unfold sumP; rw [take_snoc h,List.map_append,List.sum_append]; simp
def LongP (id:Bs) (cls:List Bs) (prs:List Pr) (w:World) (e:Ending) (w':World):Prop:=∃ b:Bool,e=.returned (.bool b)∧(b=false↔okLong id cls prs)∧Kept w w'
set_option maxRecDepth 100000 in
set_option maxHeartbeats 6400000 in
theorem long_any (id:Bs) (cls:List Bs) (prs:List Pr) (vC vP:Value) (w:World) (hC:Strs w vC cls) (hP:Prs w vP prs) (hf:FitA id cls prs) :
  Calls Tryz.prog 74 #[atV id vC vP] w (LongP id cls prs w):=by
 obtain ⟨f1,f2,f3,f4,f5⟩:=hf
 have HF4:=Lib.hid f4
 have HF5:=Lib.hid f5
 have HC:=Lib.hid hC
 have HP:=Lib.hid hP
 obtain ⟨aC,cC,rfl,lC⟩:=hC.shape
 obtain ⟨aP,cP,rfl,lP⟩:=hP.shape
 have HB1:=Lib.hid (Blk.new w 56 #[.string (bs id),.slice aC cls.length cC,.slice aP prs.length cP])
 have HK:=Lib.hid (kept_alloc w (.cells #[.string (bs id),.slice aC cls.length cC,.slice aP prs.length cP] 56))
 clear f4 f5 hC hP
 have HNO:Hid (∀ w',Kept w w'→¬ okLong id cls prs→LongP id cls prs w (.returned (.bool true)) w'):=fun w' k h=>⟨true,rfl,⟨(fun q=>by cases q),fun q=>absurd q h⟩,k⟩
 by_cases q1:40<cls.length
 ·have HF:=Lib.hid (HNO.out _ HK.out (fun h=>by have:=h.1; omega))
  generalize LongP id cls prs w=P at *
  go_enter Tryz.func74,Tryz.ntmps74
  go_wp2_with fail
  (try go_ret)
  exact HF.out
 by_cases q2:40<prs.length
 ·have HF:=Lib.hid (HNO.out _ HK.out (fun h=>by have:=h.2.1; omega))
  generalize LongP id cls prs w=P at *
  go_enter Tryz.func74,Tryz.ntmps74
  go_wp2_with fail
  (try go_ret)
  exact HF.out
 have HYES:Hid (∀ b w',(b=false↔id.length+sumC cls+sumP prs≤600)→Kept w w'→LongP id cls prs w (.returned (.bool b)) w'):=fun b w' h k=>⟨b,rfl,⟨fun q=>⟨by omega,by omega,h.1 q⟩,fun q=>h.2 q.2.2⟩,k⟩
 generalize LongP id cls prs w=P at *
 go_enter Tryz.func74,Tryz.ntmps74
 go_wp2_with fail
 generalize w.alloc (.cells #[.string (bs id),.slice aC cls.length cC,.slice aP prs.length cP] 56)=w0 at *
 generalize w.heap.size=B at *
 go_loopw [3,4] (fun n i wr=>∃ (k:Nat),k≤cls.length∧i=.int .i64 k∧n=.int .i64 ((id.length+sumC (cls.take k):Nat):Int)∧Hid (sumC (cls.take k)≤140737488355328 * k)∧Hid (Kept w0 wr)) (fun _ i _=>cls.length - (intOf i).toNat)
 case atStart=>exact ⟨0,Nat.zero_le _,rfl,by simp [sumC],by show _≤_; simp [sumC],Kept.refl _⟩
 case round =>
  obtain ⟨k,hk,rfl,rfl,HS,HKR⟩:=hrel
  have b1:wr.cell? ⟨B,1,none⟩=some (.slice aC cls.length cC):=(HB1.out.kept HKR.out).cell 1 _ rfl
  have z1:=(HB1.out.kept HKR.out).lt
  by_cases hlt:k<cls.length
  ·obtain ⟨x,hx⟩:∃ x,cls[k]? = some x:=⟨_,List.getElem?_eq_getElem hlt⟩
   obtain ⟨g,o,rfl,hg,d0,-,-⟩:=(HC.out.kept (HK.out.trans HKR.out)).cell_of k x hx
   have hp1:=HF4.out x (List.mem_of_getElem? hx)
   have HT:=Lib.hid (sumC_snoc hx)
   have hs1:=HS.out
   clear hx
   generalize sumC (cls.take k)=s at *
   go_wp2_with fail
   go_roundw
   case rel=>exact ⟨k+1,by omega,by go_num,by rw [HT.out]; first | go_num | (congr 1; omega),by show _≤_; rw [HT.out]; omega,HKR.out⟩
   case measure=>simp [intOf]; omega
  ·obtain rfl:k=cls.length:=by omega
   rw [List.take_length]
   have hs1:=HS.out
   rw [List.take_length] at hs1
   clear HS
   obtain ⟨s,HSE⟩:∃ s,Hid (sumC cls=s):=⟨_,rfl⟩
   rw [HSE.out] at hs1 HYES ⊢
   have HKC:=Lib.hid (HK.out.trans HKR.out)
   have HB2:=Lib.hid (HB1.out.kept HKR.out)
   obtain ⟨w1,rfl⟩:∃ wo:World,wo=wr:=⟨_,rfl⟩
   go_wp2_with fail
   go_loopw [3,5] (fun n i wr=>∃ (k:Nat),k≤prs.length∧i=.int .i64 k∧n=.int .i64 ((id.length+s+sumP (prs.take k):Nat):Int)∧Hid (sumP (prs.take k)≤281474976710656 * k)∧Hid (Kept w1 wr)) (fun _ i _=>prs.length - (intOf i).toNat)
   case atStart=>exact ⟨0,Nat.zero_le _,rfl,by simp [sumP],by show _≤_; simp [sumP],Kept.refl _⟩
   case round =>
    obtain ⟨k,hk,rfl,rfl,HS,HKP⟩:=hrel
    have b2:wr.cell? ⟨B,2,none⟩=some (.slice aP prs.length cP):=(HB2.out.kept HKP.out).cell 2 _ rfl
    have b2d:wr.drew.cell? ⟨B,2,none⟩=some (.slice aP prs.length cP):=b2
    have z2:=(HB2.out.kept HKP.out).lt
    by_cases hlt:k<prs.length
    ·obtain ⟨x,hx⟩:∃ x,prs[k]? = some x:=⟨_,List.getElem?_eq_getElem hlt⟩
     obtain ⟨g,o,rfl,hg,d0,d1,-,-⟩:=(HP.out.kept (HKC.out.trans HKP.out)).cell_of k x hx
     obtain ⟨hp1,hp2⟩:=HF5.out x (List.mem_of_getElem? hx)
     have HT:=Lib.hid (sumP_snoc hx)
     have hs2:=HS.out
     clear hx
     obtain ⟨y,z⟩:=x
     simp only at d0 d1 hp1 hp2 HT
     generalize sumP (prs.take k)=u at *
     go_wp2_with fail
     go_region
     all_goals
      go_wp2_with fail
      go_roundw
      case rel=>exact ⟨k+1,by omega,by go_num,by rw [HT.out]; first | go_num | (congr 1; omega),by show _≤_; rw [HT.out]; omega,HKP.out.trans (kept_drewN _ _)⟩
      case measure=>simp [intOf]; omega
    ·obtain rfl:k=prs.length:=by omega
     rw [List.take_length]
     have hs2:=HS.out
     rw [List.take_length] at hs2
     clear HS
     obtain ⟨u,HUE⟩:∃ u,Hid (sumP prs=u):=⟨_,rfl⟩
     rw [HUE.out] at hs2 HYES ⊢
     have HF:=Lib.hid (HYES.out (decide (600<(id.length:Int)+(s:Int)+(u:Int))) wr ⟨fun q=>by have:=of_decide_eq_false q; omega,fun q=>decide_eq_false (by omega)⟩ (HKC.out.trans HKP.out))
     go_wp2_with fail
     (try go_ret)
     exact HF.out
end Go.Proofs.YtmcoomlkbgiboaaGreatDoor

/- Documents in memory: the cells of an element; sizes of documents. No condition. -/
set_option linter.all false
namespace Go.Proofs.YtmcoomlkbgiboaaGreatDoor
open Go.RowKit

theorem Lns.at_ {S:Nat→Prop} {n:Nat} {w:World} {a:Option Addr} {m c:Nat} {xs:List Inl} (h:Lns S (n+1) w (.slice a m c) xs) (j:Nat) (x:Inl) (hx:xs[j]? = some x) :
  ∃ g o vC vP vA vT vK,a=some ⟨g,o,none⟩∧g<w.heap.size∧S g∧m=xs.length∧xs.length≤c ∧
   (w.cell? ⟨g,o+j * 10,none⟩=some (.int .i64 x.kind)∧w.cell? ⟨g,o+j * 10+1,none⟩=some (.string (bs x.text))∧w.cell? ⟨g,o+j * 10+2,none⟩=some (.string (bs x.dest))∧w.cell? ⟨g,o+j * 10+3,none⟩=some (.string (bs x.title))∧w.cell? ⟨g,o+j * 10+4,none⟩=some (.string (bs x.id))∧w.cell? ⟨g,o+j * 10+5,none⟩=some vC∧w.cell? ⟨g,o+j * 10+6,none⟩=some vP∧w.cell? ⟨g,o+j * 10+7,none⟩=some vA∧w.cell? ⟨g,o+j * 10+8,none⟩=some vT∧w.cell? ⟨g,o+j * 10+9,none⟩=some vK) ∧
   (∀ i u,(inlC x vC vP vA vT vK)[i]? = some u→w.cell? ⟨g,o+j * 10+i,none⟩=some u)∧(Strs w vC x.cls∧InB S vC x.cls.length)∧(Prs w vP x.prs∧InB S vP x.prs.length)∧(Strs w vA x.args∧InB S vA x.args.length)∧Cits S w vT x.cits∧Lns S n w vK x.kids:=by
 obtain ⟨g,o,cs,ha,hg,hS,hl,hc,hR,hm,hle⟩:=RowR.at_ (show RowR S 10 _ _ _ _ from h) j x hx
 obtain ⟨vC,vP,vA,vT,vK,rfl,r1,r2,r3,r4,r5⟩:=hR
 exact ⟨g,o,vC,vP,vA,vT,vK,ha,hg,hS,hm,hle,⟨by simpa using hc 0 _ rfl,hc 1 _ rfl,hc 2 _ rfl,hc 3 _ rfl,hc 4 _ rfl,hc 5 _ rfl,hc 6 _ rfl,hc 7 _ rfl,hc 8 _ rfl,hc 9 _ rfl⟩,hc,r1,r2,r3,r4,r5⟩
theorem Bls.at_ {S:Nat→Prop} {m0 n:Nat} {w:World} {a:Option Addr} {m c:Nat} {xs:List Blo} (h:Bls S m0 (n+1) w (.slice a m c) xs) (j:Nat) (x:Blo) (hx:xs[j]? = some x) :
  ∃ g o vC vP vL vK,a=some ⟨g,o,none⟩∧g<w.heap.size∧S g∧m=xs.length∧xs.length≤c ∧
   (w.cell? ⟨g,o+j * 11,none⟩=some (.int .i64 x.kind)∧w.cell? ⟨g,o+j * 11+1,none⟩=some (.int .i64 x.level)∧w.cell? ⟨g,o+j * 11+2,none⟩=some (.string (bs x.info))∧w.cell? ⟨g,o+j * 11+3,none⟩=some (.string (bs x.text))∧w.cell? ⟨g,o+j * 11+4,none⟩=some (.string (bs x.dest))∧w.cell? ⟨g,o+j * 11+5,none⟩=some (.string (bs x.title))∧w.cell? ⟨g,o+j * 11+6,none⟩=some (.string (bs x.id))∧w.cell? ⟨g,o+j * 11+7,none⟩=some vC∧w.cell? ⟨g,o+j * 11+8,none⟩=some vP∧w.cell? ⟨g,o+j * 11+9,none⟩=some vL∧w.cell? ⟨g,o+j * 11+10,none⟩=some vK) ∧
   (∀ i u,(bloC x vC vP vL vK)[i]? = some u→w.cell? ⟨g,o+j * 11+i,none⟩=some u)∧(Strs w vC x.cls∧InB S vC x.cls.length)∧(Prs w vP x.prs∧InB S vP x.prs.length)∧Lns S m0 w vL x.line∧Bls S m0 n w vK x.kids:=by
 obtain ⟨g,o,cs,ha,hg,hS,hl,hc,hR,hm,hle⟩:=RowR.at_ (show RowR S 11 _ _ _ _ from h) j x hx
 obtain ⟨vC,vP,vL,vK,rfl,r1,r2,r3,r4⟩:=hR
 exact ⟨g,o,vC,vP,vL,vK,ha,hg,hS,hm,hle,⟨by simpa using hc 0 _ rfl,hc 1 _ rfl,hc 2 _ rfl,hc 3 _ rfl,hc 4 _ rfl,hc 5 _ rfl,hc 6 _ rfl,hc 7 _ rfl,hc 8 _ rfl,hc 9 _ rfl,hc 10 _ rfl⟩,hc,r1,r2,r3,r4⟩
theorem Lns.no {S:Nat→Prop} {w:World} {v:Value} {xs:List Inl} (h:Lns S 0 w v xs):xs=[]:=h.1
theorem Bls.no {S:Nat→Prop} {m:Nat} {w:World} {v:Value} {xs:List Blo} (h:Bls S m 0 w v xs):xs=[]:=h.1
mutual
/-- No text, no list of an inline is too long. -/
def okI1:Inl→Prop
 | .mk _ text dest title id cls prs args cits kids=>(text.length≤1000000∧dest.length≤1000000∧title.length≤1000000∧id.length≤1000000∧cls.length≤1000000∧prs.length≤1000000∧args.length≤1000000∧cits.length≤1000000∧kids.length≤1000000)∧okIL kids
def okIL:List Inl→Prop
 | []=>True
 | x :: xs=>okI1 x∧okIL xs
end
mutual
def okB1:Blo→Prop
 | .mk _ _ info text dest title id cls prs line kids=>(info.length≤1000000∧text.length≤1000000∧dest.length≤1000000∧title.length≤1000000∧id.length≤1000000∧cls.length≤1000000∧prs.length≤1000000∧line.length≤1000000∧kids.length≤1000000)∧okIL line∧okBL kids
def okBL:List Blo→Prop
 | []=>True
 | x :: xs=>okB1 x∧okBL xs
end
theorem okIL_at {xs:List Inl} (h:okIL xs):∀ x∈xs,okI1 x:=by
 induction xs with
 | nil=>intro x hx; cases hx
 | cons y ys ih =>
  intro x hx
  rcases List.mem_cons.1 hx with rfl | hx
  ·exact h.1
  ·exact ih h.2 x hx
theorem okBL_at {xs:List Blo} (h:okBL xs):∀ x∈xs,okB1 x:=by
 induction xs with
 | nil=>intro x hx; cases hx
 | cons y ys ih =>
  intro x hx
  rcases List.mem_cons.1 hx with rfl | hx
  ·exact h.1
  ·exact ih h.2 x hx
theorem okI1.fit {x:Inl} (h:okI1 x):(x.text.length≤1000000∧x.dest.length≤1000000∧x.title.length≤1000000∧x.id.length≤1000000∧x.cls.length≤1000000∧x.prs.length≤1000000∧x.args.length≤1000000∧x.cits.length≤1000000∧x.kids.length≤1000000)∧okIL x.kids:=by cases x; exact h
theorem okB1.fit {x:Blo} (h:okB1 x):(x.info.length≤1000000∧x.text.length≤1000000∧x.dest.length≤1000000∧x.title.length≤1000000∧x.id.length≤1000000∧x.cls.length≤1000000∧x.prs.length≤1000000∧x.line.length≤1000000∧x.kids.length≤1000000)∧okIL x.line∧okBL x.kids:=by cases x; exact h
theorem plainL_take {xs:List Inl} {k:Nat} {x:Inl} (h:xs[k]? = some x):plainL (xs.take (k+1))=plainL (xs.take k) ++ plain1 x:=by
 rw [take_snoc h,plainL_app]; show _ ++ (plain1 x ++ [])=_; rw [List.append_nil]
theorem plainL_le (xs:List Inl) (k:Nat):(plainL (xs.take k)).length≤(plainL xs).length:=by
 conv=>rhs; rw [← List.take_append_drop k xs]
 rw [plainL_app,List.length_append]; omega
theorem deepL_take {xs:List Inl} {k:Nat} {x:Inl} (h:xs[k]? = some x):deepL (xs.take (k+1))=deepL (xs.take k) ++ deep1 x:=by
 rw [take_snoc h,deepL_app]; show _ ++ (deep1 x ++ [])=_; rw [List.append_nil]
theorem deepL_le (xs:List Inl) (k:Nat):(deepL (xs.take k)).length≤(deepL xs).length:=by
 conv=>rhs; rw [← List.take_append_drop k xs]
 rw [deepL_app,List.length_append]; omega
theorem inlsL_take {xs:List Blo} {k:Nat} {x:Blo} (h:xs[k]? = some x):inlsL (xs.take (k+1))=inlsL (xs.take k) ++ inls1 x:=by
 rw [take_snoc h,inlsL_app]; show _ ++ (inls1 x ++ [])=_; rw [List.append_nil]
theorem inlsL_le (xs:List Blo) (k:Nat):(inlsL (xs.take k)).length≤(inlsL xs).length:=by
 conv=>rhs; rw [← List.take_append_drop k xs]
 rw [inlsL_app,List.length_append]; omega
end Go.Proofs.YtmcoomlkbgiboaaGreatDoor

/- publisherref04.weight: where it answers less than 1000, inlines are few and their texts short. Conditions: lengths that a machine can tell. -/
set_option linter.all false
namespace Go.Proofs.YtmcoomlkbgiboaaGreatDoor
open Go.RowKit

/-- What a machine can tell of an inline. -/
def FitX (x:Inl):Prop:=(x.text.length≤140737488355328∧x.dest.length≤140737488355328∧x.title.length≤140737488355328)∧FitA x.id x.cls x.prs∧(x.args.length≤140737488355328∧x.cits.length≤140737488355328∧x.kids.length≤140737488355328)∧(∀ s∈x.args,s.length≤140737488355328)∧∀ c∈x.cits,c.key.length≤140737488355328∧c.pre.length≤140737488355328∧c.suf.length≤140737488355328
/-- A small inline. -/
def okXs (x:Inl):Prop:=x.text.length+x.dest.length+x.title.length≤300∧okLong x.id x.cls x.prs∧x.args.length≤9∧x.cits.length≤9∧(∀ s∈x.args,s.length≤40000)∧∀ c∈x.cits,c.key.length+c.pre.length+c.suf.length≤40000
def wB (dep:Nat):Int:=1000+(21 - dep) * 281474976710656
theorem wB_next {dep:Nat}:wB dep=wB (dep+1)+281474976710656:=by unfold wB; omega
theorem wB_le {dep:Nat}:wB dep≤5910974510924776:=by unfold wB; omega
theorem wB_ge {dep:Nat} (h:dep≤21):1000≤wB dep:=by unfold wB; omega
theorem deepL_tk {xs:List Inl} {k:Nat} {x:Inl} (h:xs[k]? = some x):deepL (xs.take (k+1))=(deepL (xs.take k) ++ [x]) ++ deepL x.kids:=by
 have e:deepL [x]=x :: deepL x.kids:=by
  show deep1 x ++ []=_
  rw [List.append_nil,deep1_eq]
 rw [take_snoc h,deepL_app,e]; simp
theorem deepL_at {xs:List Inl} {x:Inl} (h:x∈xs):x∈deepL xs∧∀ y∈deepL x.kids,y∈deepL xs:=by
 induction xs with
 | nil=>cases h
 | cons z xs ih =>
  show x∈deep1 z ++ deepL xs∧∀ y∈deepL x.kids,y∈deep1 z ++ deepL xs
  rcases List.mem_cons.1 h with rfl | h
  ·rw [deep1_eq]
   exact ⟨by simp,fun y hy=>by simp [hy]⟩
  ·obtain ⟨a,b⟩:=ih h
   exact ⟨by simp [a],fun y hy=>by simp [b y hy]⟩
instance okLongD (id:Bs) (cls:List Bs) (prs:List Pr):Decidable (okLong id cls prs):=by unfold okLong; infer_instance
/-- What weight asks of an inline itself. -/
def okHd (x:Inl):Prop:=x.text.length+x.dest.length+x.title.length≤300∧okLong x.id x.cls x.prs∧x.args.length≤9∧x.cits.length≤9
instance okHdD (x:Inl):Decidable (okHd x):=by unfold okHd; infer_instance
def argW (l:List Bs):Nat:=(l.map fun s=>s.length / 40).sum
def citW (l:List Cit):Nat:=(l.map fun c=>(c.key.length+c.pre.length+c.suf.length) / 40).sum
theorem argW_snoc {l:List Bs} {k:Nat} {x:Bs} (h:l[k]? = some x):argW (l.take (k+1))=argW (l.take k)+x.length / 40:=by
 unfold argW; rw [take_snoc h,List.map_append,List.sum_append]; simp
theorem citW_snoc {l:List Cit} {k:Nat} {x:Cit} (h:l[k]? = some x):citW (l.take (k+1))=citW (l.take k)+(x.key.length+x.pre.length+x.suf.length) / 40:=by
 unfold citW; rw [take_snoc h,List.map_append,List.sum_append]; simp
/-- What weight answers from an inline on. -/
def wgtG (f:List Inl→Int):List Inl→Int→Int
 | [],m=>m
 | x :: xs,m=>if m<1000 then (if okHd x then wgtG f xs (m+argW x.args+citW x.cits+f x.kids) else 1000) else m
/-- What weight answers. -/
def wgtE:Nat→Nat→List Inl→Int
 | 0,d,_=>if 20<d then 1000 else 0
 | n+1,d,xs=>if 20<d∨200<xs.length then 1000 else wgtG (wgtE n (d+1)) xs xs.length
theorem wgtG_big {f:List Inl→Int} {xs:List Inl} {m:Int} (h:¬ m<1000):wgtG f xs m=m:=by
 cases xs with
 | nil=>rfl
 | cons x xs=>rw [wgtG,if_neg h]
theorem wgtG_at {f:List Inl→Int} {xs:List Inl} {k:Nat} {x:Inl} {m:Int} (hx:xs[k]? = some x) (h:m<1000):wgtG f (xs.drop k) m=if okHd x then wgtG f (xs.drop (k+1)) (m+argW x.args+citW x.cits+f x.kids) else 1000:=by
 obtain ⟨hk,rfl⟩:=List.getElem?_eq_some_iff.1 hx
 rw [List.drop_eq_getElem_cons hk,wgtG,if_pos h]
def WgtP (n:Nat) (xs:List Inl) (dep:Nat) (w:World) (e:Ending) (w':World):Prop :=
 ∃ r:Int,e=.returned (.int .i64 r)∧0≤r∧r≤wB dep∧(r<1000→((deepL xs).length:Int)≤r∧∀ x∈deepL xs,okXs x)∧wgtE n dep xs=r∧Kept w w'
set_option maxRecDepth 100000 in
set_option maxHeartbeats 12800000 in
theorem rweight_any (S:Nat→Prop):∀ (n:Nat) (xs:List Inl) (v:Value) (dep:Nat) (w:World),Lns S n w v xs→dep≤21→xs.length≤140737488355328→(∀ x∈deepL xs,FitX x) →
  Calls Tryz.prog 75 #[v,.int .i64 dep] w (WgtP n xs dep w):=by
 intro n
 induction n with
 | zero =>
  intro xs v dep w hv hd hl hf
  obtain rfl:=hv.no
  obtain ⟨a,c,rfl,hc⟩:=hv.form
  have h1:=wB_ge hd
  by_cases q1:20<dep
  ·have HFIN:WgtP 0 [] dep w (.returned (.int .i64 1000)) w:=⟨1000,rfl,by omega,h1,fun q=>absurd q (by omega),if_pos q1,Kept.refl w⟩
   generalize hP:WgtP 0 [] dep w=P at *
   clear hv hP hf
   go_enter Tryz.func75,Tryz.ntmps75
   go_wp2_with fail
   (try go_ret)
   exact HFIN
  ·have HFIN:WgtP 0 [] dep w (.returned (.int .i64 0)) w:=⟨0,rfl,by omega,by omega,fun _=>⟨Int.le_refl _,fun x hx=>(List.not_mem_nil hx).elim⟩,if_neg q1,Kept.refl w⟩
   generalize hP:WgtP 0 [] dep w=P at *
   clear hv hP hf
   go_enter Tryz.func75,Tryz.ntmps75
   go_wp2_with fail
   go_loopw [5,6] (fun m i wr=>m=.int .i64 0∧i=.int .i64 0∧w=wr) (fun _ i _=>1)
   case atStart=>exact ⟨rfl,rfl,rfl⟩
   case round =>
    obtain ⟨rfl,rfl,rfl⟩:=hrel
    go_wp2_with fail
    (try go_ret)
    exact HFIN
 | succ n ih =>
  intro xs v dep w hv hd hl hf
  have HV:=Lib.hid hv
  have HIH:=Lib.hid ih
  have HF:=Lib.hid hf
  unfold WgtP at HIH
  obtain ⟨a,c,rfl,hc⟩:=hv.form
  have h1:=wB_ge hd
  obtain ⟨RR,HRR⟩:∃ z,Hid (wgtE (n+1) dep xs=z):=⟨_,rfl⟩
  have HBIG:Hid (∀ w',Kept w w'→RR=1000→WgtP (n+1) xs dep w (.returned (.int .i64 1000)) w'):=fun w' k q=>⟨1000,rfl,by omega,h1,fun q=>absurd q (by omega),by rw [HRR.out]; exact q,k⟩
  have HFIN:Hid (∀ (r:Int) w',0≤r→r≤wB dep→(r<1000→((deepL xs).length:Int)≤r∧∀ x∈deepL xs,okXs x)→RR=r→Kept w w'→WgtP (n+1) xs dep w (.returned (.int .i64 r)) w'):=fun r w' k1 k2 k3 k4 k=>⟨r,rfl,k1,k2,k3,by rw [HRR.out]; exact k4,k⟩
  generalize hP:WgtP (n+1) xs dep w=P at *
  clear hv hP hf ih
  by_cases q1:20<dep
  ·go_enter Tryz.func75,Tryz.ntmps75
   go_wp2_with fail
   (try go_ret)
   exact HBIG.out w (Kept.refl w) (by rw [← HRR.out]; exact if_pos (.inl q1))
  by_cases q2:200<xs.length
  ·go_enter Tryz.func75,Tryz.ntmps75
   go_wp2_with fail
   (try go_ret)
   exact HBIG.out w (Kept.refl w) (by rw [← HRR.out]; exact if_pos (.inr q2))
  have HG0:Hid (wgtG (wgtE n (dep+1)) xs xs.length=RR):=by
   show _=_
   rw [← HRR.out]
   exact (if_neg (by omega)).symm
  obtain ⟨F,HFF⟩:∃ F,Hid (wgtE n (dep+1)=F):=⟨_,rfl⟩
  rw [HFF.out] at HG0
  clear HRR
  have hw1:=wB_ge (show dep+1≤21 by omega)
  have hw2:=wB_le (dep:=dep+1)
  have hw3:=wB_next (dep:=dep)
  generalize wB dep=WD at *
  obtain ⟨WE,HWE⟩:∃ z,Hid (wB (dep+1)=z):=⟨_,rfl⟩
  rw [HWE.out] at hw1 hw2 hw3
  clear h1
  go_enter Tryz.func75,Tryz.ntmps75
  go_wp2_with fail
  go_loopw [5,6] (fun m i wr=>∃ (k:Nat) (r:Int),k≤xs.length∧i=.int .i64 k∧m=.int .i64 r∧0≤r∧r≤WD∧Hid (r<1000→(((deepL (xs.take k)).length+(xs.length - k):Nat):Int)≤r∧∀ x∈deepL (xs.take k),okXs x)∧Hid (wgtG F (xs.drop k) r=RR)∧Hid (Kept w wr)) (fun _ i _=>xs.length - (intOf i).toNat)
  case atStart=>exact ⟨0,xs.length,Nat.zero_le _,rfl,rfl,by omega,by omega,fun _=>⟨by simp [deepL],fun x hx=>(List.not_mem_nil hx).elim⟩,HG0.out,Kept.refl w⟩
  case round =>
   obtain ⟨k,r,hk,rfl,rfl,hr0,hr1,HR,HGR,HKR⟩:=hrel
   by_cases hlt:k<xs.length
   ·by_cases hr2:r<1000
    ·obtain ⟨x,hx⟩:∃ x,xs[k]? = some x:=⟨_,List.getElem?_eq_getElem hlt⟩
     have HT:=Lib.hid (deepL_tk hx)
     have HGX:Hid ((if okHd x then wgtG F (xs.drop (k+1)) (r+argW x.args+citW x.cits+F x.kids) else 1000)=RR):=by show _=_; rw [← wgtG_at hx hr2]; exact HGR.out
     clear HGR
     have hmx:=deepL_at (List.mem_of_getElem? hx)
     have hfx:=HF.out x hmx.1
     have HFK:Hid (∀ y∈deepL x.kids,FitX y):=fun y hy=>HF.out y (hmx.2 y hy)
     obtain ⟨g,o,vC,vP,vA,vT,vK,rfl,hgg,hgS,-,-,⟨d0,d1,d2,d3,d4,d5,d6,d7,d8,d9⟩,-,⟨hC,iC⟩,⟨hPP,iP⟩,⟨hA,iA⟩,hTT,hK⟩:=Lns.at_ (HV.out.kept HKR.out) k x hx
     clear hx hmx
     obtain ⟨X,HX⟩:∃ X,Hid (x=X):=⟨_,rfl⟩
     rw [HX.out] at HT HGX
     obtain ⟨kind,text,dest,title,id,cls,prs,args,cits,kids⟩:=x
     simp only [Inl.kind,Inl.text,Inl.dest,Inl.title,Inl.id,Inl.cls,Inl.prs,Inl.args,Inl.cits,Inl.kids] at d0 d1 d2 d3 d4 hC hPP hA hTT hK
     obtain ⟨⟨f1,f2,f3⟩,f4,⟨f5,f6,f7⟩,f8,f9⟩:=hfx
     simp only [Inl.kind,Inl.text,Inl.dest,Inl.title,Inl.id,Inl.cls,Inl.prs,Inl.args,Inl.cits,Inl.kids] at f1 f2 f3 f4 f5 f6 f7 f8 f9
     have HXK:Hid (deepL X.kids=deepL kids):=by show _=_; rw [← HX.out]; rfl
     have HHD:Hid (okHd X↔(text.length+dest.length+title.length≤300∧okLong id cls prs∧args.length≤9∧cits.length≤9)):=by show _↔_; rw [← HX.out]; exact Iff.rfl
     have HGY:Hid (okHd X→wgtG F (xs.drop (k+1)) (r+argW args+citW cits+F kids)=RR):=by
      show _→_
      intro q
      have h:=HGX.out
      rw [if_pos q,← HX.out] at h
      exact h
     have HGN:Hid (¬ okHd X→RR=1000):=by
      show _→_
      intro q
      have h:=HGX.out
      rw [if_neg q] at h
      exact h.symm
     clear HGX
     have HXO:Hid (text.length+dest.length+title.length≤300→okLong id cls prs→args.length≤9→cits.length≤9→(∀ s∈args,s.length≤40000)→(∀ c∈cits,c.key.length+c.pre.length+c.suf.length≤40000)→okXs X):=by
      show _→_
      intro a1 a2 a3 a4 a5 a6
      rw [← HX.out]; exact ⟨a1,a2,a3,a4,a5,a6⟩
     replace HFK:Hid (∀ y∈deepL kids,FitX y):=HFK.out
     rw [HXK.out] at HT
     clear HX HXK
     have HF4:=Lib.hid f4
     have HF8:=Lib.hid f8
     have HF9:=Lib.hid f9
     clear f4 f8 f9
     obtain ⟨aC,cC,rfl,lC⟩:=hC.shape
     obtain ⟨aP,cP,rfl,lP⟩:=hPP.shape
     obtain ⟨aA,cA,rfl,lA⟩:=hA.shape
     obtain ⟨aT,cT,rfl,lT⟩:=hTT.form
     obtain ⟨aK,cK,rfl,lK⟩:=hK.form
     have hka:=kept_alloc wr (.cells #[.int .i64 kind,.string (bs text),.string (bs dest),.string (bs title),.string (bs id),.slice aC cls.length cC,.slice aP prs.length cP,.slice aA args.length cA,.slice aT cits.length cT,.slice aK kids.length cK] 71)
     have HB:=Lib.hid (Blk.new wr 71 #[.int .i64 kind,.string (bs text),.string (bs dest),.string (bs title),.string (bs id),.slice aC cls.length cC,.slice aP prs.length cP,.slice aA args.length cA,.slice aT cits.length cT,.slice aK kids.length cK])
     have HKW:=Lib.hid (HKR.out.trans hka)
     have HC:=Lib.hid (hC.kept hka)
     have HPR:=Lib.hid (hPP.kept hka)
     have HA:=Lib.hid (hA.kept hka)
     have HTT:Hid (Cits S (wr.alloc (.cells #[.int .i64 kind,.string (bs text),.string (bs dest),.string (bs title),.string (bs id),.slice aC cls.length cC,.slice aP prs.length cP,.slice aA args.length cA,.slice aT cits.length cT,.slice aK kids.length cK] 71)) (.slice aT cits.length cT) cits):=hTT.sam (Sam.kept hka) (fun _ _ q=>q)
     have HKK:=Lib.hid (hK.kept hka)
     clear hka hC hPP hA hTT hK iC iP iA
     by_cases q3:300<text.length+dest.length+title.length
     ·have HE:=Lib.hid (HBIG.out _ HKW.out (HGN.out (fun q=>by have:=(HHD.out.1 q).1; omega)))
      clear HKR
      go_wp2_with fail
      (try go_ret)
      exact HE.out
     go_wp2_with fail
     generalize wr.alloc (.cells #[.int .i64 kind,.string (bs text),.string (bs dest),.string (bs title),.string (bs id),.slice aC cls.length cC,.slice aP prs.length cP,.slice aA args.length cA,.slice aT cits.length cT,.slice aK kids.length cK] 71)=w1 at *
     generalize wr.heap.size=B at *
     refine (long_any id cls prs _ _ w1 HC.out HPR.out HF4.out).mono ?_
     rintro e w2 ⟨b,rfl,hb,hk2⟩
     have HK2:=Lib.hid (HKW.out.trans hk2)
     have HB2:=Lib.hid (HB.out.kept hk2)
     have HA2:=Lib.hid (HA.out.kept hk2)
     have HT2:Hid (Cits S w2 (.slice aT cits.length cT) cits):=HTT.out.sam (Sam.kept hk2) (fun _ _ q=>q)
     have HKK2:=Lib.hid (HKK.out.kept hk2)
     clear hk2 HKW HB HA HTT HKK HC HPR HF4 HKR d0 d1 d2 d3 d4 d5 d6 d7 d8 d9
     cases b with
     | true =>
      have HE:=Lib.hid (HBIG.out _ HK2.out (HGN.out (fun q=>by have:=hb.2 (HHD.out.1 q).2.1; cases this)))
      go_wp2_with fail
      (try go_ret)
      exact HE.out
     | false =>
      have HLO:=Lib.hid (hb.1 rfl)
      clear hb
      have y7:w2.cell? ⟨B,7,none⟩=some (.slice aA args.length cA):=HB2.out.cell 7 _ rfl
      have y8:w2.cell? ⟨B,8,none⟩=some (.slice aT cits.length cT):=HB2.out.cell 8 _ rfl
      have zB:=HB2.out.lt
      by_cases q4:9<args.length
      ·have HE:=Lib.hid (HBIG.out _ HK2.out (HGN.out (fun q=>by have:=(HHD.out.1 q).2.2.1; omega)))
       go_wp2_with fail
       (try go_ret)
       exact HE.out
      by_cases q5:9<cits.length
      ·have HE:=Lib.hid (HBIG.out _ HK2.out (HGN.out (fun q=>by have:=(HHD.out.1 q).2.2.2; omega)))
       go_wp2_with fail
       (try go_ret)
       exact HE.out
      go_wp2_with fail
      clear y7 y8 zB
      go_loopw [5,8] (fun m j wa=>∃ (t:Nat) (r2:Int),t≤args.length∧j=.int .i64 t∧m=.int .i64 r2∧r≤r2∧r2≤r+3518437208884 * t∧Hid (∀ s∈args.take t,(s.length:Int)≤40 * r2+39)∧Hid (r2=r+(argW (args.take t):Nat))∧Hid (Kept w2 wa)) (fun _ j _=>args.length - (intOf j).toNat)
      case atStart=>exact ⟨0,r,Nat.zero_le _,rfl,rfl,by omega,by omega,fun s hs=>(List.not_mem_nil hs).elim,by show _=_; simp [argW],Kept.refl _⟩
      case round =>
       obtain ⟨t,r2,ht,rfl,rfl,hr3,hr4,HS,HRA,HKA⟩:=hrel
       have y7:wr.cell? ⟨B,7,none⟩=some (.slice aA args.length cA):=(HB2.out.kept HKA.out).cell 7 _ rfl
       have zB:=(HB2.out.kept HKA.out).lt
       by_cases hlt2:t<args.length
       ·obtain ⟨s,hx⟩:∃ x,args[t]? = some x:=⟨_,List.getElem?_eq_getElem hlt2⟩
        obtain ⟨g,o,rfl,hg,d0,-,-⟩:=(HA2.out.kept HKA.out).cell_of t s hx
        have hs8:=HF8.out s (List.mem_of_getElem? hx)
        have HRA2:Hid (r2+(s.length:Int) / 40=r+(argW (args.take (t+1)):Nat)):=by show _=_; rw [argW_snoc hx,HRA.out]; omega
        have HS2:Hid (∀ s'∈args.take (t+1),(s'.length:Int)≤40 * (r2+(s.length:Int) / 40)+39):=by
         show ∀ _∈_,_
         intro s' hs'
         rw [take_snoc hx] at hs'
         rcases List.mem_append.1 hs' with q | q
         ·have:=HS.out s' q; omega
         ·rw [List.mem_singleton.1 q]; omega
        clear hx HS HRA
        go_wp2_with fail
        go_roundw
        case rel=>exact ⟨t+1,r2+(s.length:Int) / 40,by omega,by go_num,rfl,by omega,by omega,HS2.out,HRA2.out,HKA.out⟩
        case measure=>simp [intOf]; omega
       ·obtain rfl:t=args.length:=by omega
        have HS2:Hid (∀ s∈args,(s.length:Int)≤40 * r2+39):=by have h:=HS.out; rw [List.take_length] at h; exact h
        have HRA2:Hid (r2=r+(argW args:Nat)):=by have h:=HRA.out; rw [List.take_length] at h; exact h
        clear HRA
        obtain ⟨wA,rfl⟩:∃ wo:World,wo=wr:=⟨_,rfl⟩
        have HK3:=Lib.hid (HK2.out.trans HKA.out)
        have HB3:=Lib.hid (HB2.out.kept HKA.out)
        have HT3:Hid (Cits S wA (.slice aT cits.length cT) cits):=HT2.out.sam (Sam.kept HKA.out) (fun _ _ q=>q)
        have HKK3:=Lib.hid (HKK2.out.kept HKA.out)
        clear HS HKA HK2 HB2 HA2 HT2 HKK2
        go_wp2_with fail
        clear y7 zB
        go_loopw [5,9] (fun m j wa=>∃ (t:Nat) (r3:Int),t≤cits.length∧j=.int .i64 t∧m=.int .i64 r3∧r2≤r3∧r3≤r2+10555311626650 * t∧Hid (∀ s∈cits.take t,((s.key.length+s.pre.length+s.suf.length:Nat):Int)≤40 * r3+39)∧Hid (r3=r2+(citW (cits.take t):Nat))∧Hid (Kept wA wa)) (fun _ j _=>cits.length - (intOf j).toNat)
        case atStart=>exact ⟨0,r2,Nat.zero_le _,rfl,rfl,by omega,by omega,fun s hs=>(List.not_mem_nil hs).elim,by show _=_; simp [citW],Kept.refl _⟩
        case round =>
         obtain ⟨t,r3,ht3,rfl,rfl,hr5,hr6,HS,HRC,HKA⟩:=hrel
         have y8:wr.cell? ⟨B,8,none⟩=some (.slice aT cits.length cT):=(HB3.out.kept HKA.out).cell 8 _ rfl
         have zB:=(HB3.out.kept HKA.out).lt
         by_cases hlt3:t<cits.length
         ·obtain ⟨s,hx⟩:∃ x,cits[t]? = some x:=⟨_,List.getElem?_eq_getElem hlt3⟩
          obtain ⟨g,o,cs,rfl,hg,hgS,-,hcs,hcw,-,-⟩:=RowR.at_ (show RowR S 4 CitW wr _ _ from HT3.out.sam (Sam.kept HKA.out) (fun _ _ q=>q)) t s hx
          rw [hcw] at hcs
          have d0:wr.cell? ⟨g,o+t * 4,none⟩=some (.string (bs s.key)):=by simpa using hcs 0 _ rfl
          have d1:wr.cell? ⟨g,o+t * 4+1,none⟩=some (.string (bs s.pre)):=hcs 1 _ rfl
          have d2:wr.cell? ⟨g,o+t * 4+2,none⟩=some (.string (bs s.suf)):=hcs 2 _ rfl
          have d3:wr.cell? ⟨g,o+t * 4+3,none⟩=some (.bool s.bare):=hcs 3 _ rfl
          obtain ⟨e1,e2,e3⟩:=HF9.out s (List.mem_of_getElem? hx)
          have HS2:Hid (∀ s'∈cits.take (t+1),((s'.key.length+s'.pre.length+s'.suf.length:Nat):Int)≤40 * (r3+((s.key.length:Int)+s.pre.length+s.suf.length) / 40)+39):=by
           show ∀ _∈_,_
           intro s' hs'
           rw [take_snoc hx] at hs'
           rcases List.mem_append.1 hs' with q | q
           ·have:=HS.out s' q; omega
           ·rw [List.mem_singleton.1 q]; omega
          have HRC2:Hid (r3+((s.key.length:Int)+s.pre.length+s.suf.length) / 40=r2+(citW (cits.take (t+1)):Nat)):=by show _=_; rw [citW_snoc hx,HRC.out]; omega
          have HKN:=Lib.hid (HKA.out.trans (kept_alloc wr (.cells #[.string (bs s.key),.string (bs s.pre),.string (bs s.suf),.bool s.bare] 68)))
          obtain ⟨key,pre,suf,bare⟩:=s
          simp only at d0 d1 d2 d3 e1 e2 e3 HS2 HKN HRC2
          clear hx HS hcs hcw HRC
          go_wp2_with fail
          go_roundw
          case rel=>exact ⟨t+1,r3+((key.length:Int)+pre.length+suf.length) / 40,by omega,by go_num,rfl,by omega,by omega,HS2.out,HRC2.out,HKN.out⟩
          case measure=>simp [intOf]; omega
         ·obtain rfl:t=cits.length:=by omega
          have HS3:Hid (∀ s∈cits,((s.key.length+s.pre.length+s.suf.length:Nat):Int)≤40 * r3+39):=by have h:=HS.out; rw [List.take_length] at h; exact h
          have HRC2:Hid (r3=r2+(citW cits:Nat)):=by have h:=HRC.out; rw [List.take_length] at h; exact h
          clear HRC
          have y9:wr.cell? ⟨B,9,none⟩=some (.slice aK kids.length cK):=(HB3.out.kept HKA.out).cell 9 _ rfl
          have HI:=Lib.hid (HIH.out kids (.slice aK kids.length cK) (dep+1) wr (HKK3.out.kept HKA.out) (by omega) f7 HFK.out)
          have HK4:=Lib.hid (HK3.out.trans HKA.out)
          rw [HWE.out,HFF.out,show (((dep+1:Nat)):Int)=(dep:Int)+1 by omega] at HI
          clear HS HKA HK3 HB3 HT3 HKK3
          go_wp2_with fail
          refine HI.out.mono ?_
          rintro e w5 ⟨r4,rfl,k1,k2,hd4,hf4,hk5⟩
          have HGZ:Hid (wgtG F (xs.drop (k+1)) (r3+r4)=RR):=by
           have h:=HGY.out (HHD.out.2 ⟨by omega,HLO.out,by omega,by omega⟩)
           show _=_
           rw [← h,hf4,HRC2.out,HRA2.out]
          clear hf4 HGY HGN HHD HRA2 HRC2
          have HN:Hid (r3+r4<1000→(((deepL (xs.take (k+1))).length+(xs.length - (k+1)):Nat):Int)≤r3+r4∧∀ x∈deepL (xs.take (k+1)),okXs x):=by
           show _→_
           intro q
           obtain ⟨a1,a2⟩:=HR.out (by omega)
           obtain ⟨b1,b2⟩:=hd4 (by omega)
           rw [HT.out]
           refine ⟨?_,fun y hy=>?_⟩
           ·rw [List.length_append,List.length_append,List.length_singleton]; omega
           ·rcases List.mem_append.1 hy with hy | hy
            ·rcases List.mem_append.1 hy with hy | hy
             ·exact a2 y hy
             ·rw [List.mem_singleton.1 hy]
              exact HXO.out (by omega) HLO.out (by omega) (by omega) (fun s hs=>by have:=HS2.out s hs; omega) (fun s hs=>by have:=HS3.out s hs; omega)
            ·exact b2 y hy
          have HK6:=Lib.hid (HK4.out.trans hk5)
          clear HI hd4 hk5 HR HXO HLO HS2 HS3 HT y8 y9 zB
          go_wp2_with fail
          go_roundw
          case rel=>exact ⟨k+1,r3+r4,by omega,by go_num,rfl,by omega,by omega,HN.out,HGZ.out,HK6.out⟩
          case measure=>simp [intOf]; omega
    ·have HE:=Lib.hid (HFIN.out r wr hr0 hr1 (fun q=>absurd q hr2) (by rw [← HGR.out]; exact wgtG_big hr2) HKR.out)
     clear HR HKR
     go_wp2_with fail
     (try go_ret)
     exact HE.out
   ·obtain rfl:k=xs.length:=by omega
    have HE:=Lib.hid (HFIN.out r wr hr0 hr1 (fun q=>by have h:=HR.out q; rw [List.take_length] at h; exact ⟨by have:=h.1; omega,h.2⟩) (by rw [← HGR.out,List.drop_length]; rfl) HKR.out)
    clear HR HKR
    go_wp2_with fail
    (try go_ret)
    exact HE.out
end Go.Proofs.YtmcoomlkbgiboaaGreatDoor
