/- compare of publisherref32. Conditions: lengths. -/
import Derived.Test.YtmcoomlkbgiboaaGreatDoorV44
import Derived.Test.YtmcoomlkbgiboaaGreatDoorV45
import Derived.Test.YtmcoomlkbgiboaaGreatDoorV21
import Derived.Test.YtmcoomlkbgiboaaGreatDoorV29
import Derived.Test.YtmcoomlkbgiboaaGreatDoorV34
import Derived.Test.YtmcoomlkbgiboaaGreatDoorV17
import Derived.Test.YtmcoomlkbgiboaaGreatDoorV22
import Derived.Test.YtmcoomlkbgiboaaGreatDoorV27
import Derived.Test.YtmcoomlkbgiboaaGreatDoorV32
set_option linter.all false
set_option maxRecDepth 100000
set_option maxHeartbeats 12800000
namespace Go.Proofs.YtmcoomlkbgiboaaGreatDoor
open Go.RowKit
theorem zDp (c:ColT) (x y:KeyT):zb8 c zeT x y=zgV c x.author y.author:=if_pos rfl
theorem zDq (c:ColT) (x y:KeyT):zb8 c znG x y=zBj x.year y.year:=by unfold zb8;rw[if_neg (by decide),if_pos rfl]
theorem zDr (c:ColT) (x y:KeyT):zb8 c zb1 x y=zgV c x.title y.title:=by unfold zb8;rw[if_neg (by decide),if_neg (by decide),if_pos rfl]
theorem zDs (c:ColT) {w:Bs} (h1:w≠zeT) (h2:w≠zb1) (h3:w≠znG) (x y:KeyT):zb8 c w x y=zkJ x.key y.key:=by unfold zb8;rw[if_neg h1,if_neg h3,if_neg h2]
theorem zt4 (c:ColT) (w:Bs) (x y:KeyT):zb8 c w x y = -1\/zb8 c w x y=0\/zb8 c w x y=1:=by
 unfold zb8
 split
 ·exact zn6 c _ _
 ·split
  ·unfold zBj;split
   ·exact .inl rfl
   ·split
    ·exact .inr (.inr rfl)
    ·exact .inr (.inl rfl)
  ·split
   ·exact zn6 c _ _
   ·exact zoA _ _
theorem zxH (a b:SrcT) (aA aE aF bA bE bF vW vR vO:Value) (ws:List Bs) (c:ColT) (w:World) (h1:Perss w aA a.author) (h2:Perss w aE a.editor) (h3:Prs w aF a.fields) (g1:Perss w bA b.author) (g2:Perss w bE b.editor) (g3:Prs w bF b.fields) (fa:FitL a) (fb:FitL b) (hw:Strs w vW ws) (hwl:ws.length<=1000000) (hc:Col w vR vO c) (hs:SmallC c) :
  Calls Tryz.prog 46 #[zhK a.key a.type aA aE aF,zhK b.key b.type bA bE bF,vW,zmZ vR vO c.ignore] w fun e w'=>e=.returned (.int .i64 (cfO c ws a b))/\Kept w w':=by
 obtain ⟨p1,q1,rfl,l1⟩:=h1.shape;obtain ⟨p2,q2,rfl,l2⟩:=h2.shape;obtain ⟨p3,q3,rfl,l3⟩:=h3.shape;obtain ⟨r1,s1,rfl,m1⟩:=g1.shape;obtain ⟨r2,s2,rfl,m2⟩:=g2.shape;obtain ⟨r3,s3,rfl,m3⟩:=g3.shape;obtain ⟨aR,cR,rfl,lR⟩:=hc.1.form;obtain ⟨aO,cO,rfl,lO⟩:=hc.2.form;obtain ⟨aW,cW,rfl,lW⟩:=hw.shape;have HW:=Hd hw;have HAA:=Hd (fun w' (k:Kept w w')=>zi3 _ _ (.slice p3 a.fields.length q3) a w' (h1.kept k) (h2.kept k) rfl (ziT fa) (fun q hq=>fa.2.2.2.2.2 q (ziS a q hq)));have HAB:=Hd (fun w' (k:Kept w w')=>zi3 _ _ (.slice r3 b.fields.length s3) b w' (g1.kept k) (g2.kept k) rfl (ziT fb) (fun q hq=>fb.2.2.2.2.2 q (ziS b q hq)));have HFA:=Hd (fun w' (k:Kept w w')=>zjC a.key a.type (.slice p1 a.author.length q1) (.slice p2 a.editor.length q2) _ a.fields zb1 w' (h3.kept k) (by have:=fa.2.2.1;omega));have HFB:=Hd (fun w' (k:Kept w w')=>zjC b.key b.type (.slice r1 b.author.length s1) (.slice r2 b.editor.length s2) _ b.fields zb1 w' (g3.kept k) (by have:=fb.2.2.1;omega));unfold FieldPost at HFA HFB;have hya:=zfT fa.2.2.2.2.1 kYr;have hyb:=zfT fb.2.2.2.2.1 kYr;have HYA:=Hd (fun w' (k:Kept w w')=>zn1 a.key a.type (.slice p1 a.author.length q1) (.slice p2 a.editor.length q2) _ a.fields w' (h3.kept k) (by have:=fa.2.2.1;omega) (by unfold kYr at hya;omega));have HYB:=Hd (fun w' (k:Kept w w')=>zn1 b.key b.type (.slice r1 b.author.length s1) (.slice r2 b.editor.length s2) _ b.fields w' (g3.kept k) (by have:=fb.2.2.1;omega) (by unfold kYr at hyb;omega));have HCM:=Hd (fun x y w' (k:Kept w w') (hx:x.length<=9000) (hy:y.length<=9000)=>zsJ _ _ c x y w' (hc.kept k) hs hx hy);have HD0:Hid (cfW c ws (zcY a) (zcY b)=cfO c ws a b):=rfl;have HAT:Hid (∀ k x,ws[k]? = some x->cfW c (ws.drop k) (zcY a) (zcY b)=if zb8 c x (zcY a) (zcY b)≠0 then zb8 c x (zcY a) (zcY b) else cfW c (ws.drop (k+1)) (zcY a) (zcY b)):=fun k x h=>zuZ h _ _;have HRG:Hid (∀ x,zb8 c x (zcY a) (zcY b) = -1\/zb8 c x (zcY a) (zcY b)=0\/zb8 c x (zcY a) (zcY b)=1):=fun x=>zt4 c x _ _;have HAU:Hid (zb8 c zeT (zcY a) (zcY b)=zgV c (zcX a) (zcX b)):=zDp c _ _;have HYR:Hid (zb8 c znG (zcY a) (zcY b)=zBj (zdC ((zaZ a.fields kYr).getD [])) (zdC ((zaZ b.fields kYr).getD []))):=zDq c _ _;have HTI:Hid (zb8 c zb1 (zcY a) (zcY b)=zgV c ((zaZ a.fields zb1).getD []) ((zaZ b.fields zb1).getD [])):=zDr c _ _;have HKY:Hid (∀ x,x≠zeT->x≠zb1->x≠znG->zb8 c x (zcY a) (zcY b)=zkJ a.key b.key):=fun x e1 e2 e3=>zDs c e1 e2 e3 _ _;have hla:(zcX a).length<=9000:=ziU fa;have hlb:(zcX b).length<=9000:=ziU fb;have hta:((zaZ a.fields zb1).getD []).length<=9000:=(by have:=zfT fa.2.2.2.2.1 zb1;omega);have htb:((zaZ b.fields zb1).getD []).length<=9000:=(by have:=zfT fb.2.2.2.2.1 zb1;omega);generalize (zaZ a.fields zb1).isSome=ia at *;generalize (zaZ b.fields zb1).isSome=ib at *;generalize (zaZ a.fields zb1).getD []=ta at *;generalize (zaZ b.fields zb1).getD []=tb at *;unfold kYr at HYR;generalize zdC ((zaZ a.fields [121,101,97,114]).getD [])=ya at *;generalize zdC ((zaZ b.fields [121,101,97,114]).getD [])=yb at *;generalize zcX a=ka at *;generalize zcX b=kb at *;obtain ⟨R,HR⟩:∃ z,Hid (cfO c ws a b=z):=⟨_,rfl⟩;rw[HR.out] at HD0 ⊢;clear HR hya hyb h1 h2 h3 g1 g2 g3 fa fb;generalize zcY a=KA at *;generalize zcY b=KB at *;obtain ⟨ak,aty,aau,aed,afs⟩:=a;obtain ⟨bk,bty,bau,bed,bfs⟩:=b;simp only at HKY HAA HAB HFA HFB HYA HYB;have HBA:=Hd (Blk.new w 50 #[.string (bs ak),.string (bs aty),.slice p1 aau.length q1,.slice p2 aed.length q2,.slice p3 afs.length q3]);have HBB:=Hd (Blk.new (w.alloc (.cells #[.string (bs ak),.string (bs aty),.slice p1 aau.length q1,.slice p2 aed.length q2,.slice p3 afs.length q3] 50)) 50 #[.string (bs bk),.string (bs bty),.slice r1 bau.length s1,.slice r2 bed.length s2,.slice r3 bfs.length s3]);have HBC:=Hd (Blk.new ((w.alloc (.cells #[.string (bs ak),.string (bs aty),.slice p1 aau.length q1,.slice p2 aed.length q2,.slice p3 afs.length q3] 50)).alloc (.cells #[.string (bs bk),.string (bs bty),.slice r1 bau.length s1,.slice r2 bed.length s2,.slice r3 bfs.length s3] 50)) 88 #[.slice aR c.ranks.length cR,.slice aO c.order.length cO,.string (bs c.ignore)]);have HK1:=Hd (zaA w (.cells #[.string (bs ak),.string (bs aty),.slice p1 aau.length q1,.slice p2 aed.length q2,.slice p3 afs.length q3] 50));have HK2:=Hd (zaA (w.alloc (.cells #[.string (bs ak),.string (bs aty),.slice p1 aau.length q1,.slice p2 aed.length q2,.slice p3 afs.length q3] 50)) (.cells #[.string (bs bk),.string (bs bty),.slice r1 bau.length s1,.slice r2 bed.length s2,.slice r3 bfs.length s3] 50));have HK3:=Hd (zaA ((w.alloc (.cells #[.string (bs ak),.string (bs aty),.slice p1 aau.length q1,.slice p2 aed.length q2,.slice p3 afs.length q3] 50)).alloc (.cells #[.string (bs bk),.string (bs bty),.slice r1 bau.length s1,.slice r2 bed.length s2,.slice r3 bfs.length s3] 50)) (.cells #[.slice aR c.ranks.length cR,.slice aO c.order.length cO,.string (bs c.ignore)] 88));simp only[World.size_alloc] at HBB HBC;unfold zhK at *;unfold zmZ at *;go_enter Tryz.func46,Tryz.ntmps46;go_wp2_with fail;generalize w.alloc (.cells #[.string (bs ak),.string (bs aty),.slice p1 aau.length q1,.slice p2 aed.length q2,.slice p3 afs.length q3] 50)=w1 at *;generalize w1.alloc (.cells #[.string (bs bk),.string (bs bty),.slice r1 bau.length s1,.slice r2 bed.length s2,.slice r3 bfs.length s3] 50)=w2 at *;generalize w2.alloc (.cells #[.slice aR c.ranks.length cR,.slice aO c.order.length cO,.string (bs c.ignore)] 88)=w3 at *;generalize w.heap.size=A at *;have HK0:=Hd ((HK1.out.trans HK2.out).trans HK3.out);have HQA:=Hd ((HBA.out.kept HK2.out).kept HK3.out);have HQB:=Hd (HBB.out.kept HK3.out);clear HBA HBB HK1 HK2 HK3;go_loopw [9] (fun i wr=>∃ k:Nat,k<=ws.length/\i=.int .i64 k/\Hid (cfW c (ws.drop k) KA KB=R)/\Hid (Kept w3 wr)) (fun i _=>ws.length - (intOf i).toNat)
 case atStart=>exact ⟨0,Nat.zero_le _,rfl,HD0.out,Kept.refl _⟩
 case round =>
  obtain ⟨k,hk,rfl,HDR,HKR⟩:=hrel;by_cases hlt:k<ws.length
  ·obtain ⟨x,hx⟩:∃ x,ws[k]? = some x:=⟨_,List.getElem?_eq_getElem hlt⟩;obtain ⟨g,o,rfl,hg,d0,-,-⟩:=((HW.out.kept HK0.out).kept HKR.out).cell_of k x hx;have HST:=Hd (HAT.out k x hx);rw[HDR.out] at HST;have hrg:=HRG.out x;have HKW:=Hd (HK0.out.trans HKR.out);clear HDR hx HAT HRG HD0;have HCC:Hid (∀ w',Kept wr w'->(w'.cell? ⟨A,0,none⟩=some (.string (bs ak))/\w'.cell? ⟨A,1,none⟩=some (.string (bs aty))/\w'.cell? ⟨A,2,none⟩=some (.slice p1 aau.length q1)/\w'.cell? ⟨A,3,none⟩=some (.slice p2 aed.length q2)/\w'.cell? ⟨A,4,none⟩=some (.slice p3 afs.length q3)/\w'.cell? ⟨A+1,0,none⟩=some (.string (bs bk))/\w'.cell? ⟨A+1,1,none⟩=some (.string (bs bty))/\w'.cell? ⟨A+1,2,none⟩=some (.slice r1 bau.length s1)/\w'.cell? ⟨A+1,3,none⟩=some (.slice r2 bed.length s2)/\w'.cell? ⟨A+1,4,none⟩=some (.slice r3 bfs.length s3)/\w'.cell? ⟨A+1+1,0,none⟩=some (.slice aR c.ranks.length cR)/\w'.cell? ⟨A+1+1,1,none⟩=some (.slice aO c.order.length cO)/\w'.cell? ⟨A+1+1,2,none⟩=some (.string (bs c.ignore)))/\(A<w'.heap.size/\A+1<w'.heap.size/\A+1+1<w'.heap.size)/\Kept wr w'):=fun w' h =>
    ⟨⟨(HQA.out.kept (HKR.out.trans h)).cell 0 _ rfl,(HQA.out.kept (HKR.out.trans h)).cell 1 _ rfl,(HQA.out.kept (HKR.out.trans h)).cell 2 _ rfl,(HQA.out.kept (HKR.out.trans h)).cell 3 _ rfl,(HQA.out.kept (HKR.out.trans h)).cell 4 _ rfl,(HQB.out.kept (HKR.out.trans h)).cell 0 _ rfl,(HQB.out.kept (HKR.out.trans h)).cell 1 _ rfl,(HQB.out.kept (HKR.out.trans h)).cell 2 _ rfl,(HQB.out.kept (HKR.out.trans h)).cell 3 _ rfl,(HQB.out.kept (HKR.out.trans h)).cell 4 _ rfl,(HBC.out.kept (HKR.out.trans h)).cell 0 _ rfl,(HBC.out.kept (HKR.out.trans h)).cell 1 _ rfl,(HBC.out.kept (HKR.out.trans h)).cell 2 _ rfl⟩,⟨(HQA.out.kept (HKR.out.trans h)).lt,(HQB.out.kept (HKR.out.trans h)).lt,(HBC.out.kept (HKR.out.trans h)).lt⟩,h⟩
   obtain ⟨⟨tA0,tA1,tA2,tA3,tA4,tB0,tB1,tB2,tB3,tB4,tC0,tC1,tC2⟩,⟨zA,zB,zC⟩,-⟩:=HCC.out wr (Kept.refl _);have hkd:Kept wr wr.drew:=zaB wr 1;by_cases e1:x=zeT
   ·subst e1;rw[HAU.out] at HST hrg;have HCX:=Hd (fun w' (k:Kept w w')=>HCM.out ka kb w' k hla hlb);obtain ⟨n,HN⟩:∃ n,Hid (zgV c ka kb=n):=⟨_,rfl⟩;rw[HN.out] at HST hrg HCX;unfold zeT at d0;go_wp2_with fail
    go_region_held3 (fun w'=>(w'.cell? ⟨A,0,none⟩=some (.string (bs ak))/\w'.cell? ⟨A,1,none⟩=some (.string (bs aty))/\w'.cell? ⟨A,2,none⟩=some (.slice p1 aau.length q1)/\w'.cell? ⟨A,3,none⟩=some (.slice p2 aed.length q2)/\w'.cell? ⟨A,4,none⟩=some (.slice p3 afs.length q3)/\w'.cell? ⟨A+1,0,none⟩=some (.string (bs bk))/\w'.cell? ⟨A+1,1,none⟩=some (.string (bs bty))/\w'.cell? ⟨A+1,2,none⟩=some (.slice r1 bau.length s1)/\w'.cell? ⟨A+1,3,none⟩=some (.slice r2 bed.length s2)/\w'.cell? ⟨A+1,4,none⟩=some (.slice r3 bfs.length s3)/\w'.cell? ⟨A+1+1,0,none⟩=some (.slice aR c.ranks.length cR)/\w'.cell? ⟨A+1+1,1,none⟩=some (.slice aO c.order.length cO)/\w'.cell? ⟨A+1+1,2,none⟩=some (.string (bs c.ignore)))/\(A<w'.heap.size/\A+1<w'.heap.size/\A+1+1<w'.heap.size)/\Kept wr w')
     ((refine HCC.out _ ?_;assumption))
     (first
      | (go_at_call 102;refine (HCX.out _ (HKW.out.trans kB)).mono ?_;rintro e w6 ⟨rfl,hk6⟩;have kC:Kept wr w6:=kB.trans hk6;clear hk6)
      | (go_at_call_of 103 (Value.string (bs bk));refine (HAB.out _ (HKW.out.trans kA)).mono ?_;rintro e w5 ⟨rfl,hk5⟩;have kB:Kept wr w5:=kA.trans hk5;clear hk5)
      | (go_at_call_of 103 (Value.string (bs ak));refine (HAA.out _ (HKW.out.trans hkd)).mono ?_;rintro e w4 ⟨rfl,hk4⟩;have kA:Kept wr w4:=hkd.trans hk4;clear hk4))
    all_goals
     have HKC:=Hd kC;clear kA kB kC;clear HCC HQA HQB HBC HCX;rcases hrg with h|h|h
     ·subst h;have HRN:Hid (R = -1):=(by show _=_;rw[HST.out,if_pos (by decide)]);clear HST;go_wp2_with fail
      (try go_ret)
      exact ⟨zaG HRN.out.symm,HKW.out.trans (HKC.out)⟩
     ·subst h;have HRN:Hid (cfW c (ws.drop (k+1)) KA KB=R):=(by show _=_;rw[HST.out,if_neg (by simp)]);clear HST;go_wp2_with fail;go_roundw
      case rel=>exact ⟨k+1,by omega,by go_num,HRN.out,HKR.out.trans (HKC.out)⟩
      case measure=>simp [intOf];omega
     ·subst h;have HRN:Hid (R=1):=(by show _=_;rw[HST.out,if_pos (by decide)]);clear HST;go_wp2_with fail
      (try go_ret)
      exact ⟨zaG HRN.out.symm,HKW.out.trans (HKC.out)⟩
   by_cases e2:x=zb1
   ·subst e2;rw[HTI.out] at HST hrg;have HCX:=Hd (fun w' (k:Kept w w')=>HCM.out ta tb w' k hta htb);obtain ⟨n,HN⟩:∃ n,Hid (zgV c ta tb=n):=⟨_,rfl⟩;rw[HN.out] at HST hrg HCX;unfold zb1 at d0 HFA HFB;clear e1;go_wp2_with fail;refine (HFA.out wr HKW.out).mono ?_;rintro e w4 ⟨rfl,hk4⟩;obtain ⟨u,⟨zA1,zB1,zC1⟩,-⟩:=HCC.out w4 hk4;obtain ⟨uA0,uA1,uA2,uA3,uA4,uB0,uB1,uB2,uB3,uB4,uC0,uC1,uC2⟩:=u;have HKA:=Hd hk4;clear hk4 tA0 tA1 tA2 tA3 tA4 tB0 tB1 tB2 tB3 tB4 tC0 tC1 tC2 zA zB zC;go_wp2_with fail;refine (HFB.out w4 (HKW.out.trans HKA.out)).mono ?_;rintro e w5 ⟨rfl,hk5⟩;have HKB:=Hd (HKA.out.trans hk5);obtain ⟨u,⟨zA2,zB2,zC2⟩,-⟩:=HCC.out w5 HKB.out;obtain ⟨vA0,vA1,vA2,vA3,vA4,vB0,vB1,vB2,vB3,vB4,vC0,vC1,vC2⟩:=u;clear hk5 uA0 uA1 uA2 uA3 uA4 uB0 uB1 uB2 uB3 uB4 uC0 uC1 uC2 zA1 zB1 zC1;go_wp2_with fail;refine (HCX.out w5 (HKW.out.trans HKB.out)).mono ?_;rintro e w6 ⟨rfl,hk6⟩;have HKC:=Hd (HKB.out.trans hk6);clear hk6 vA0 vA1 vA2 vA3 vA4 vB0 vB1 vB2 vB3 vB4 vC0 vC1 vC2 zA2 zB2 zC2 HCC HCX;rcases hrg with h|h|h
    ·subst h;have HRN:Hid (R = -1):=(by show _=_;rw[HST.out,if_pos (by decide)]);clear HST;go_wp2_with fail
     (try go_ret)
     exact ⟨zaG HRN.out.symm,HKW.out.trans (HKC.out)⟩
    ·subst h;have HRN:Hid (cfW c (ws.drop (k+1)) KA KB=R):=(by show _=_;rw[HST.out,if_neg (by simp)]);clear HST;go_wp2_with fail;go_roundw
     case rel=>exact ⟨k+1,by omega,by go_num,HRN.out,HKR.out.trans (HKC.out)⟩
     case measure=>simp [intOf];omega
    ·subst h;have HRN:Hid (R=1):=(by show _=_;rw[HST.out,if_pos (by decide)]);clear HST;go_wp2_with fail
     (try go_ret)
     exact ⟨zaG HRN.out.symm,HKW.out.trans (HKC.out)⟩
   by_cases e3:x=znG
   ·subst e3;rw[HYR.out] at HST hrg;unfold zBj at HST hrg;unfold znG at d0;clear e1 e2;go_wp2_with fail
    go_region_held3 (fun w'=>(w'.cell? ⟨A,0,none⟩=some (.string (bs ak))/\w'.cell? ⟨A,1,none⟩=some (.string (bs aty))/\w'.cell? ⟨A,2,none⟩=some (.slice p1 aau.length q1)/\w'.cell? ⟨A,3,none⟩=some (.slice p2 aed.length q2)/\w'.cell? ⟨A,4,none⟩=some (.slice p3 afs.length q3)/\w'.cell? ⟨A+1,0,none⟩=some (.string (bs bk))/\w'.cell? ⟨A+1,1,none⟩=some (.string (bs bty))/\w'.cell? ⟨A+1,2,none⟩=some (.slice r1 bau.length s1)/\w'.cell? ⟨A+1,3,none⟩=some (.slice r2 bed.length s2)/\w'.cell? ⟨A+1,4,none⟩=some (.slice r3 bfs.length s3)/\w'.cell? ⟨A+1+1,0,none⟩=some (.slice aR c.ranks.length cR)/\w'.cell? ⟨A+1+1,1,none⟩=some (.slice aO c.order.length cO)/\w'.cell? ⟨A+1+1,2,none⟩=some (.string (bs c.ignore)))/\(A<w'.heap.size/\A+1<w'.heap.size/\A+1+1<w'.heap.size)/\Kept wr w')
     ((refine HCC.out _ ?_;assumption))
     (first
      | (go_at_call_of 105 (Value.string (bs bk));refine (HYB.out _ (HKW.out.trans kA)).mono ?_;rintro e w5 ⟨rfl,hk5⟩;have kB:Kept wr w5:=kA.trans hk5;clear hk5)
      | (go_at_call_of 105 (Value.string (bs ak));refine (HYA.out _ (HKW.out.trans hkd)).mono ?_;rintro e w4 ⟨rfl,hk4⟩;have kA:Kept wr w4:=hkd.trans hk4;clear hk4))
    all_goals
     have HKB:=Hd kB;clear kA kB;by_cases y1:ya<yb
     ·rw[if_pos y1] at HST hrg;have HRN:Hid (R = -1):=(by show _=_;rw[HST.out,if_pos (by decide)]);clear HST hrg HCC;go_wp2_with fail
      (try go_ret)
      exact ⟨zaG HRN.out.symm,HKW.out.trans HKB.out⟩
     rw[if_neg y1] at HST hrg;obtain ⟨u,⟨zA1,zB1,zC1⟩,-⟩:=HCC.out w5 HKB.out;obtain ⟨uA0,uA1,uA2,uA3,uA4,uB0,uB1,uB2,uB3,uB4,uC0,uC1,uC2⟩:=u;have hkd5:Kept wr w5.drew:=HKB.out.trans (zaB w5 1);clear tA0 tA1 tA2 tA3 tA4 tB0 tB1 tB2 tB3 tB4 tC0 tC1 tC2 zA zB zC hkd;go_wp2_with fail
     go_region_held3 (fun w'=>(w'.cell? ⟨A,0,none⟩=some (.string (bs ak))/\w'.cell? ⟨A,1,none⟩=some (.string (bs aty))/\w'.cell? ⟨A,2,none⟩=some (.slice p1 aau.length q1)/\w'.cell? ⟨A,3,none⟩=some (.slice p2 aed.length q2)/\w'.cell? ⟨A,4,none⟩=some (.slice p3 afs.length q3)/\w'.cell? ⟨A+1,0,none⟩=some (.string (bs bk))/\w'.cell? ⟨A+1,1,none⟩=some (.string (bs bty))/\w'.cell? ⟨A+1,2,none⟩=some (.slice r1 bau.length s1)/\w'.cell? ⟨A+1,3,none⟩=some (.slice r2 bed.length s2)/\w'.cell? ⟨A+1,4,none⟩=some (.slice r3 bfs.length s3)/\w'.cell? ⟨A+1+1,0,none⟩=some (.slice aR c.ranks.length cR)/\w'.cell? ⟨A+1+1,1,none⟩=some (.slice aO c.order.length cO)/\w'.cell? ⟨A+1+1,2,none⟩=some (.string (bs c.ignore)))/\(A<w'.heap.size/\A+1<w'.heap.size/\A+1+1<w'.heap.size)/\Kept wr w')
      ((refine HCC.out _ ?_;assumption))
      (first
       | (go_at_call_of 105 (Value.string (bs bk));refine (HYB.out _ (HKW.out.trans kA2)).mono ?_;rintro e w7 ⟨rfl,hk7⟩;have kB2:Kept wr w7:=kA2.trans hk7;clear hk7)
       | (go_at_call_of 105 (Value.string (bs ak));refine (HYA.out _ (HKW.out.trans hkd5)).mono ?_;rintro e w6 ⟨rfl,hk6⟩;have kA2:Kept wr w6:=hkd5.trans hk6;clear hk6))
     all_goals
      have HKC:=Hd kB2;clear kA2 kB2;by_cases y2:yb<ya
      ·rw[if_pos y2] at HST hrg;have HRN:Hid (R=1):=(by show _=_;rw[HST.out,if_pos (by decide)]);clear HST hrg HCC;go_wp2_with fail
       (try go_ret)
       exact ⟨zaG HRN.out.symm,HKW.out.trans HKC.out⟩
      ·rw[if_neg y2] at HST hrg;have HRN:Hid (cfW c (ws.drop (k+1)) KA KB=R):=(by show _=_;rw[HST.out,if_neg (by simp)]);clear HST hrg HCC;go_wp2_with fail;go_roundw
       case rel=>exact ⟨k+1,by omega,by go_num,HRN.out,HKR.out.trans HKC.out⟩
       case measure=>simp [intOf];omega
   ·rw[HKY.out x e1 e2 e3] at HST hrg;have n1:(x == [97,117,116,104,111,114])=false:=(by rw[beq_eq_false_iff_ne];exact e1);have n2:(x == [116,105,116,108,101])=false:=(by rw[beq_eq_false_iff_ne];exact e2);have n3:(x == [121,101,97,114])=false:=(by rw[beq_eq_false_iff_ne];exact e3);have HL1:Hid (Op.bytesLess ak bk=decide (zkJ ak bk<0)):=zpL ak bk;have HL2:Hid ((ak == bk)=decide (zkJ ak bk=0)):=zBd ak bk;generalize zkJ ak bk=n at *;clear HCC e1 e2 e3;have KR0:Kept wr wr:=Kept.refl _;rcases hrg with h|h|h
    ·subst h;have l1:Op.bytesLess ak bk=true:=(by rw[HL1.out];rfl);have HRN:Hid (R = -1):=(by show _=_;rw[HST.out,if_pos (by decide)]);clear HST;go_wp2_with fail
     (try go_ret)
     exact ⟨zaG HRN.out.symm,HKW.out⟩
    ·subst h;have l1:Op.bytesLess ak bk=false:=(by rw[HL1.out];rfl);have l2:(ak == bk)=true:=(by rw[HL2.out];rfl);have HRN:Hid (cfW c (ws.drop (k+1)) KA KB=R):=(by show _=_;rw[HST.out,if_neg (by simp)]);clear HST;go_wp2_with fail;go_roundw
     case rel=>exact ⟨k+1,by omega,by go_num,HRN.out,HKR.out⟩
     case measure=>simp [intOf];omega
    ·subst h;have l1:Op.bytesLess ak bk=false:=(by rw[HL1.out];rfl);have l2:(ak == bk)=false:=(by rw[HL2.out];rfl);have HRN:Hid (R=1):=(by show _=_;rw[HST.out,if_pos (by decide)]);clear HST;go_wp2_with fail
     (try go_ret)
     exact ⟨zaG HRN.out.symm,HKW.out⟩
  ·obtain rfl:k=ws.length:=(by omega);have HR0:Hid (R=0):=(by show _=_;rw[<- HDR.out,List.drop_length];rfl);have HKW:=Hd (HK0.out.trans HKR.out);clear HDR HKR;go_wp2_with fail
   (try go_ret)
   exact ⟨zaG HR0.out.symm,HKW.out⟩
theorem zBe {y:StyT} (h:zdY y=0):zj7 y.sort=wsY y:=by
 by_cases h0:y.sort=[]
 ·rw[zAo h0,h0];decide
 ·rw[zrT h h0];show (za1 32 y.sort).filter (fun x=>!x.isEmpty)=za1 32 y.sort;refine List.filter_eq_self.2 fun x hx=>?_;rcases zjO (zmL h) with q|q
  ·exact absurd q h0
  ·have:=(zpP (List.all_eq_true.1 q x hx)).1;simpa using this
theorem zsK (t:Bs) (w:World) (ht:t.length<=1100000):Calls Tryz.prog 44 #[.string (bs t)] w (WrdP (zj7 t) w):=by
 obtain ⟨i0',hi',hz0,hz1,hz2⟩:=info_parts Tryz.infoStr;have HFIN:Hid (∀ fr xs,WordSt t t.length fr xs->fr<=t.length/\zj7 t=if fr<t.length then xs ++ [t.drop fr] else xs):=fun fr xs h=>h.done;go_enter Tryz.func44,Tryz.ntmps44;go_wp2_with fail;go_loopw [3,4,5] (fun v fv i wr=>∃ (k fr:Nat) (xs:List Bs),k<=t.length+1/\i=.int .i64 k/\fv=.int .i64 fr/\fr<=t.length+1/\xs.length<=k/\wr.ownsRow w.heap.size 9 1 v xs.length (zaF xs)/\Hid ((k<=t.length/\WordSt t k fr xs)\/(k=t.length+1/\zj7 t=xs))/\Hid (Kept w wr)) (fun _ _ i _=>t.length+1 - (intOf i).toNat)
 case atStart=>exact ⟨0,0,[],Nat.zero_le _,rfl,rfl,Nat.zero_le _,Nat.le_refl _,World.ownsRow_nil _ _ _ _,.inl ⟨Nat.zero_le _,WordSt.start t⟩,Kept.refl _⟩
 case round =>
  obtain ⟨k,fr,xs,hk,rfl,rfl,hfr,hxl,hown,HS,HKR⟩:=hrel;have hsz:w.heap.size<=wr.heap.size:=HKR.out.size;have HOWN:=Hd hown;clear hown;by_cases hle:k<=t.length
  ·have HST:Hid (WordSt t k fr xs):=by
    rcases HS.out with h|h
    ·exact h.2
    ·omega
   have hfk:fr<=k:=HST.out.2.1;by_cases hend:k<t.length/\at8 t k≠32
   ·obtain ⟨hlt,hb⟩:=hend;have i0:=zc0 (P:=Tryz.prog) (t:=9) Tryz.underlying9 t k hlt k rfl;have hne:((k:Int) == (t.length:Int))=false:=(by rw[beq_eq_false_iff_ne];omega);have HC:Hid (at8 t k=32↔t[k]=32):=(by show _↔_;rw[zbE t k hlt];exact zeY _ 32 (by decide));have HO:=Hd (HST.out.other hlt (fun q=>hb (HC.out.2 q)));have hb':(at8 t k == 32)=false:=(by simpa using hb);generalize at8 t k=b at *;clear hb HC;go_wp2_with fail;go_roundw
    case rel=>exact ⟨k+1,fr,xs,by omega,by go_num,rfl,by omega,by omega,HOWN.out,.inl ⟨by omega,HO.out⟩,HKR.out⟩
    case measure=>simp [intOf];omega
   ·have HNX:Hid ((k<t.length->at8 t k=32)->∀ ys,ys=(if fr<k then xs ++ [(t.drop fr).take (k - fr)] else xs)->((k+1<=t.length/\WordSt t (k+1) (k+1) ys)\/(k+1=t.length+1/\zj7 t=ys))):=by
     rintro h ys rfl;by_cases q:k<t.length
     ·have h2:=h q;rw[zbE t k q] at h2;left;exact ⟨by omega,HST.out.sp q ((zeY _ 32 (by decide)).1 h2)⟩
     ·obtain rfl:k=t.length:=(by omega);right;refine ⟨rfl,?_⟩;obtain ⟨_,e⟩:=HFIN.out fr xs HST.out;rw[e];by_cases q2:fr<t.length
      ·rw[if_pos q2,if_pos q2,List.take_of_length_le (by simp)]
      ·rw[if_neg q2,if_neg q2]
    have HN2:=Hd (HNX.out (fun q=>by
     by_cases h:at8 t k=32
     ·exact h
     ·exact absurd ⟨q,h⟩ hend))
    clear HNX;have sl:=zhH (P:=Tryz.prog) (t:=9) Tryz.underlying9 t fr k hfk hle fr k rfl rfl _ rfl;generalize (t.drop fr).take (k - fr)=y at *;have hcase:(((k:Int) == (t.length:Int))=true)\/(((k:Int) == (t.length:Int))=false/\k<t.length/\(at8 t k == 32)=true):=by
     by_cases q:k<t.length
     ·right;refine ⟨by rw[beq_eq_false_iff_ne];omega,q,?_⟩;rw[beq_iff_eq];by_cases h:at8 t k=32
      ·exact h
      ·exact absurd ⟨q,h⟩ hend
     ·left;rw[beq_iff_eq];omega
    clear hend;rcases hcase with q1|⟨q1,q2,q3⟩
    case' inr=>have i0:=zc0 (P:=Tryz.prog) (t:=9) Tryz.underlying9 t k q2 k rfl;generalize at8 t k=b at *
    all_goals
     by_cases hfr2:fr<k
     ·have hown:=HOWN.out;have HN3:=Hd (HN2.out (xs ++ [y]) (by rw[if_pos hfr2]));clear HN2;go_wp2_with (at_builtin;refine wpList_append_own _ rfl _ _ 29 rfl w.heap.size 9 i0' (.string ⟨#[]⟩) 1 16 Tryz.underlying29 hi' hz0 hz1 hz2 rfl (by decide) _ _ _ rfl (hown.alloc _) ⟨wr.heap.size,0,none⟩ 1 1 [.string (bs y)] rfl rfl ?_ ?_ ?_ ?_ ?_ ?_)
      ·exact za0 _ #[.string (bs y)] _ _ (by simp)
      ·intro u hu;simp at hu;subst hu;rfl
      ·unfold maxLen;omega
      ·omega
      ·simp;omega
      intro v' w2 hown2 hgrow _;have HB2:=Hd ((HKR.out.trans (zaA wr _)).trans' (zaI (hown.alloc _) hgrow (by simp;omega)));rw[<- za8] at hown2;have HO:=Hd hown2;clear hown2 hgrow hown;go_wp2_with fail;go_roundw
      case rel=>exact ⟨k+1,k+1,xs ++ [y],by omega,by go_num,by go_num,by omega,by simp;omega,by simpa using HO.out,HN3.out,HB2.out⟩
      case measure=>simp [intOf];omega
     ·have HN3:=Hd (HN2.out xs (by rw[if_neg hfr2]));clear HN2;go_wp2_with fail;go_roundw
      case rel=>exact ⟨k+1,k+1,xs,by omega,by go_num,by go_num,by omega,by omega,HOWN.out,HN3.out,HKR.out⟩
      case measure=>simp [intOf];omega
  ·have HD:Hid (zj7 t=xs):=by
    rcases HS.out with h|h
    ·omega
    ·exact h.2
   have HSS:=Hd (Strs.own HOWN.out);go_wp2_with fail;go_ret;exact ⟨_,rfl,by rw[HD.out];exact HSS.out,HKR.out⟩
theorem zxI (k:Nat) (h:k<10) (w:World):Calls Tryz.prog 100 #[.int .i64 (k:Int)] w fun e w'=>e=.returned (.string (bs [UInt8.ofNat (48+k)]))/\Kept w w':=by
 obtain rfl|rfl|rfl|rfl|rfl|rfl|rfl|rfl|rfl|rfl:k=0\/k=1\/k=2\/k=3\/k=4\/k=5\/k=6\/k=7\/k=8\/k=9:=(by omega)
 all_goals
  go_enter Tryz.func100,Tryz.ntmps100;go_wp2_with fail
  (try go_ret)
  exact ⟨rfl,Kept.refl _⟩
def zsM:List Bs->List Pr
 | a :: b :: r=>(a,b) :: zsM r
 | _=>[]
theorem zsL:∀ (k:Nat) (xs:List Bs) (x y:Bs),xs[2 * k]? = some x->xs[2 * k+1]? = some y->zsM (xs.take (2 * k+2))=zsM (xs.take (2 * k)) ++ [(x,y)]
 | 0,xs,x,y,h1,h2=>by
  match xs,h1,h2 with
  | a :: b :: r,h1,h2 =>
   cases h1;cases h2;rfl
  | [a],_,h2=>cases h2
  | [],h1,_=>cases h1
 | k+1,xs,x,y,h1,h2=>by
  match xs,h1,h2 with
  | a :: b :: r,h1,h2 =>
   have:=zsL k r x y (by rw[show 2 * (k+1)=2 * k+1+1 by omega] at h1;exact h1) (by rw[show 2 * (k+1)+1=2 * k+1+1+1 by omega] at h2;exact h2);rw[show 2 * (k+1)+2=2 * k+2+1+1 by omega,show 2 * (k+1)=2 * k+1+1 by omega,List.take_succ_cons,List.take_succ_cons,List.take_succ_cons,List.take_succ_cons];show (a,b) :: zsM (r.take (2 * k+2))=(a,b) :: zsM (r.take (2 * k)) ++ [(x,y)];rw[this];rfl
  | [a],h1,_=>simp at h1
  | [],h1,_=>simp at h1
def RulP (ps:List Pr) (w:World) (e:Ending) (w':World):Prop:=∃ v,e=.returned v/\w'.ownsRow w.heap.size 62 2 v ps.length (zbZ ps)/\Kept w w'
theorem zgN (v:Value) (xs:List Bs) (w:World) (hv:Strs w v xs) (hl:xs.length<=10000) (he:∃ n,xs.length=2 * n):Calls Tryz.prog 101 #[v] w (RulP (zsM xs) w):=by
 obtain ⟨a,c,rfl,hc⟩:=hv.shape;have HV:=Hd hv;have HE:=Hd he;have HFIN:Hid (∀ v w',w'.ownsRow w.heap.size 62 2 v (zsM xs).length (zbZ (zsM xs))->Kept w w'->RulP (zsM xs) w (.returned v) w'):=fun v w' h k=>⟨v,rfl,h,k⟩;generalize hP:RulP (zsM xs) w=P at *;clear hv he hP;go_enter Tryz.func101,Tryz.ntmps101;go_wp2_with fail;go_loopw [3,4] (fun o i wr=>∃ (j:Nat) (ps:List Pr),j<=xs.length/\i=.int .i64 j/\Hid (∃ k,j=2 * k)/\ps.length<=j/\Hid (zsM (xs.take j)=ps)/\Hid (wr.ownsRow w.heap.size 62 2 o ps.length (zbZ ps))/\Hid (Kept w wr)) (fun _ i _=>xs.length - (intOf i).toNat)
 case atStart=>exact ⟨0,[],Nat.zero_le _,rfl,⟨0,rfl⟩,Nat.zero_le _,rfl,World.ownsRow_nil _ _ _ _,Kept.refl _⟩
 case round =>
  obtain ⟨j,ps,hj,rfl,HJ,hpl,HPS,HOW,HKR⟩:=hrel;have hsz:w.heap.size<=wr.heap.size:=HKR.out.size;have hwj:IntKind.i64.wrap ((j:Int)+1)=(j:Int)+1:=IntWalk.i64_in _ (by omega);by_cases hlt:j+1<xs.length
  ·obtain ⟨x,hx⟩:∃ x,xs[j]? = some x:=⟨_,List.getElem?_eq_getElem (by omega)⟩;obtain ⟨y,hy⟩:∃ x,xs[j+1]? = some x:=⟨_,List.getElem?_eq_getElem hlt⟩;have HNX:Hid (zsM (xs.take (j+2))=ps ++ [(x,y)]):=by
    obtain ⟨k,rfl⟩:=HJ.out;show _=_;rw[zsL k xs x y hx hy,HPS.out]
   obtain ⟨g,o,rfl,hg,d0,-,-⟩:=(HV.out.kept HKR.out).cell_of j x hx;obtain ⟨g',o',e',-,d1,-,-⟩:=(HV.out.kept HKR.out).cell_of (j+1) y hy;cases e';have HN:=Hd (zD5 wr.drew x y);have HKN:Hid (Kept wr (wr.drew.alloc (.cells #[.string (bs x),.string (bs y)] 62))):=(zaB wr 1).trans (zaA _ _);have HJ2:Hid (∃ k,j+2=2 * k):=(by obtain ⟨k,q⟩:=HJ.out;exact ⟨k+1,by omega⟩);have hbs:w.heap.size<=(wr.drew.alloc (.cells #[.string (bs x),.string (bs y)] 62)).heap.size:=Nat.le_trans hsz HKN.out.size;have b1:(0:Int)<=(j:Int):=(by omega);have b2:(0:Int)<=(j:Int)+1:=(by omega);have b3:(j:Int)+1<(xs.length:Int):=(by omega);have b4:(j:Int)<(xs.length:Int):=(by omega);clear hx hy HJ HPS;go_wp2_with fail
   go_region_law ((refine zl5 _ rfl (.tmp 12) (.tmp 23) rfl w.heap.size _ ps (by simp [Act.eval,Act.put]) (zaP HOW.out HKN.out) _ [(x,y)] (by simp [Act.eval,Act.put]) HN.out (by simp;omega) hbs ?_;intro v' w3 hown3 hgrow3;have HG3:=Hd hgrow3;have HO3:=Hd hown3;obtain ⟨a3,c3,rfl,_,_,_⟩:=zaV hown3;clear hgrow3 hown3))
   all_goals
    have HO4:=HO3;simp only[List.length_append,List.length_cons,List.length_nil,Nat.zero_add] at HO4;have HK4:Hid (Kept w w3):=(HKR.out.trans HKN.out).trans' (zaI (zaP HOW.out HKN.out) HG3.out hbs);clear HG3 HN HKN HOW;go_wp2_with fail;go_roundw
    case rel=>exact ⟨j+2,ps ++ [(x,y)],by omega,by go_num,HJ2.out,by simp;omega,HNX.out,Hd (by simpa using HO3.out),HK4.out⟩
    case measure=>simp [intOf];omega
  ·have hje:j=xs.length:=(by obtain ⟨n,q⟩:=HE.out;obtain ⟨k,q2⟩:=HJ.out;omega);have HPS2:Hid (zsM xs=ps):=(by have h:=HPS.out;rw[hje,List.take_length] at h;exact h);have HF:=Hd (HFIN.out _ wr (by rw[HPS2.out];exact HOW.out) HKR.out);clear HPS HPS2 HOW HKR HJ HE hje;go_wp2_with fail
   (try go_ret)
   exact HF.out
def RCoP (c:ColT) (w:World) (e:Ending) (w':World):Prop:=∃ vR vO,e=.returned (zmZ vR vO c.ignore)/\Col w' vR vO c/\Kept w w'
def zFt:Bs:=[97,98,99,100,101,102,103,104,105,106,107,108,109,110,111,112,113,114,115,116,117,118,119,120,121,122]
def zFW:Bs:=[65,66,67,68,69,70,71,72,73,74,75,76,77,78,79,80,81,82,83,84,85,86,87,88,89,90]
theorem zFu:∀ k:Nat,k<26->(zFt.drop k).take 1=[UInt8.ofNat (97+k)]/\(zFW.drop k).take 1=[UInt8.ofNat (65+k)]/\at8 zFt k=97+k:=by decide +kernel
theorem zFv:∀ lang:Bs,(zCP lang=3)=(lang=wEs)/\(zCP lang=1)=(lang=wDe)/\(zCP lang=2)=(lang=wFr):=by
 intro lang;by_cases h0:lang=lEn
 ·subst h0;decide
 by_cases h1:lang=lDe
 ·subst h1;decide
 by_cases h2:lang=lFr
 ·subst h2;decide
 by_cases h3:lang=lEs
 ·subst h3;decide
 have e:zCP lang = -1:=(by unfold zCP;rw[if_neg h0,if_neg h1,if_neg h2,if_neg h3]);rw[e];have n1:¬ lang=wDe:=h1;have n2:¬ lang=wFr:=h2;have n3:¬ lang=wEs:=h3;simp [n1,n2,n3]
def zER:List Bs:=[[195,164],[97],[195,182],[111],[195,188],[117],[195,132],[97],[195,150],[111],[195,156],[117],[195,159],[115,115]]
def zES:List Bs:=[[195,160],[97],[195,162],[97],[195,167],[99],[195,168],[101],[195,169],[101],[195,170],[101],[195,171],[101],[195,174],[105],[195,175],[105],[195,180],[111],[195,185],[117],[195,187],[117],[195,188],[117],[195,128],[97],[195,130],[97],[195,135],[99],[195,136],[101],[195,137],[101],[195,138],[101],[195,139],[101],[195,142],[105],[195,143],[105],[195,148],[111],[195,153],[117],[195,155],[117],[195,156],[117],[195,166],[97,101],[197,147],[111,101]]
def zET:List Bs:=[[195,161],[97],[195,169],[101],[195,173],[105],[195,179],[111],[195,186],[117],[195,188],[117],[195,129],[97],[195,137],[101],[195,141],[105],[195,147],[111],[195,154],[117],[195,156],[117]]
theorem zDt:zsM zER=zAk/\zER.length=14:=by decide +kernel
theorem zDu:zsM zES=zAl/\zES.length=56:=by decide +kernel
theorem zDv:zsM zET=zAm/\zET.length=24:=by decide +kernel
theorem zxJ (lang:Bs) (w:World):Calls Tryz.prog 45 #[.string (bs lang)] w (RCoP (zoB lang) w):=by
 have hr:=Blk.new w 88 #[.slice none 0 0,.slice none 0 0,.string (bs [])];have HKa:=Hd (zaA w (.cells #[.slice none 0 0,.slice none 0 0,.string (bs [])] 88));have HRB0:=Hd hr;clear hr;have HFIN:Hid (∀ vR vO w',Col w' vR vO (zoB lang)->Kept w w'->RCoP (zoB lang) w (.returned (zmZ vR vO [])) w'):=fun vR vO w' h1 h4=>⟨vR,vO,rfl,h1,h4⟩;generalize RCoP (zoB lang) w=P at *;obtain ⟨B,HB⟩:∃ B,Hid (w.heap.size=B):=⟨_,rfl⟩;go_enter Tryz.func45,Tryz.ntmps45;go_upto_region 1 with fail;rw[HB.out] at HRB0 ⊢;generalize w.alloc _=wz at *;go_wp2_with fail;refine (zwW lang wz).mono ?_;rintro e w1 ⟨rfl,hk1⟩;have HRB:=Hd ((HRB0.out.kept hk1).alloc (.cells #[.slice none 0 0,.slice none 0 0,.string (bs [])] 88));have hc:=Blk.new w1 88 #[.slice none 0 0,.slice none 0 0,.string (bs [])];have HK0:=Hd ((HKa.out.trans hk1).trans (zaA w1 (.cells #[.slice none 0 0,.slice none 0 0,.string (bs [])] 88)));have hBC:B<w1.heap.size:=(HRB0.out.kept hk1).lt;obtain ⟨C,HC⟩:∃ C,Hid (w1.heap.size=C):=⟨_,rfl⟩;have HWB:Hid (w.heap.size<=B):=(by show _<=_;rw[HB.out];exact Nat.le_refl _);have HWC:Hid (w.heap.size<=C):=(by show _<=_;rw[<- HC.out];exact (HKa.out.trans hk1).size);rw[HC.out] at hc hBC;have HC0:Hid (ColSt (w1.alloc (.cells #[.slice none 0 0,.slice none 0 0,.string (bs [])] 88)) C (C+1) ⟨[],zf7 0,[]⟩):=⟨_,_,hc,World.ownsRow_nil _ _ _ _,World.ownsRow_nil _ _ _ _⟩;have hID:=zFv lang;obtain ⟨hI3,hI1,hI2⟩:=hID;have HI3:=Hd (iff_of_eq hI3);have HI1:=Hd (iff_of_eq hI1);have HI2:=Hd (iff_of_eq hI2);obtain ⟨ix,HIX⟩:∃ ix,Hid (zCP lang=ix):=⟨_,rfl⟩;rw[HIX.out] at HI3 HI1 HI2 ⊢;clear hk1 hc HRB0 HKa hI3 hI1 hI2 HIX;go_upto_region 3 with fail;rw[HC.out];generalize World.alloc w1 _=w0 at *;clear HC;have hB0:C<w0.heap.size:=(by obtain ⟨vR,vO,h,_⟩:=HC0.out;exact h.lt);go_wp2_with fail;go_loopw [5] (fun i wr=>∃ (k:Nat),k<=10/\i=.int .i64 k/\Hid (ColSt wr C (C+1) ⟨[],zf7 k,[]⟩)/\Hid (Only (fun g=>g=C\/C+1<=g) w0 wr)) (fun i _=>10 - (intOf i).toNat)
 case atStart=>exact ⟨0,Nat.zero_le _,rfl,HC0.out,Only.of_kept (Kept.refl w0)⟩
 case round =>
  obtain ⟨k,hk,rfl,HST,HON⟩:=hrel;by_cases hlt:k<10
  ·have hdl:(zf7 k).length<=10:=(by rw[zg7];exact hk);obtain ⟨ds,HDS⟩:∃ ds,Hid (zf7 k=ds):=⟨_,rfl⟩;have HNX:Hid (zf7 (k+1)=ds ++ [[UInt8.ofNat (48+k)]]):=(by rw[<- HDS.out];exact zrR k);rw[HDS.out] at HST hdl;obtain ⟨vR,vO,hb,hR,hO⟩:=HST.out;have HBB:=Hd hb;have HR:=Hd hR;have HO:=Hd hO;have hz:=hb.lt;obtain ⟨aO,cO,rfl,_,_,_⟩:=zaV hO;have c1:wr.drew.cell? ⟨C,1,none⟩=some (.slice aO ds.length cO):=hb.cell 1 _ rfl;have hbs:C+1<=wr.heap.size:=(by omega);have HIK:=Hd (zxI k hlt);obtain ⟨s,HS⟩:∃ s,Hid ([UInt8.ofNat (48+k)]=s):=⟨_,rfl⟩;rw[HS.out] at HIK HNX;clear hb hR hO HST;go_wp2_with fail
   go_region_law (first
     | (go_simp;go_at_call 100;refine (HIK.out _).mono ?_;rintro e w2 ⟨rfl,hk2⟩;have hk3:=(zaB wr 1).trans hk2;have hka:=hk3.trans (zaA w2 (.cells #[.string (bs s)] 9));have HB2:=Hd (HBB.out.kept hka);have HR2:=Hd (zaP HR.out hka);have HO2:=Hd (zaP HO.out hka);have HK2:=Hd hka;have c2:w2.cell? ⟨C,1,none⟩=some (.slice aO ds.length cO):=(HBB.out.kept hk3).cell 1 _ rfl;have z2:=(HBB.out.kept hk3).lt;have c2a:(w2.alloc (.cells #[.string (bs s)] 9)).cell? ⟨C,1,none⟩=some (.slice aO ds.length cO):=HB2.out.cell 1 _ rfl;have HN2:=Hd (ztO w2 s);have hb2:C+1<=(w2.alloc (.cells #[.string (bs s)] 9)).heap.size:=Nat.le_trans hbs hka.size;clear hk2 hk3 hka)
     | (refine zdV _ rfl (.tmp 16) (.tmp 19) rfl (C+1) _ ds (by rfl) HO2.out _ [s] (by rfl) HN2.out (by simp;omega) hb2 ?_;intro v' w3 hown3 hgrow3;have hb3:=(hgrow3.block C HB2.out.lt (zbI HO2.out HB2.out (by decide))).trans HB2.out;have f3:w3.frozen? ⟨C,1,none⟩=false:=(show Blk w3 C 88 _ from hb3).free 1;have c3:w3.cell? ⟨C,1,none⟩=some (.slice aO ds.length cO):=(show Blk w3 C 88 _ from hb3).cell 1 _ rfl;have z3:=(show Blk w3 C 88 _ from hb3).lt;have HG3:=Hd hgrow3;have HO3:=Hd hown3;obtain ⟨a3,c3',rfl,_,_,_⟩:=zaV hown3;clear hgrow3 hown3 hb3))
   all_goals
    have hS:=zg3 (c:=⟨[],ds,[]⟩) (ws:=[s]) HB2.out HR2.out HO2.out HO3.out HG3.out;rw[show (ds ++ [s]).length=ds.length+1 from by simp] at hS;have HS1:=Hd hS.1;have HS2:=Hd ((HON.out.trans (Only.of_kept HK2.out)).trans hS.2);clear hS HB2 HR2 HO2 HO3 HG3 HN2 HK2 c1 c2 c2a z2;go_wp2_with fail;go_roundw
    case rel=>exact ⟨k+1,by omega,by go_num,(by rw[HNX.out];exact HS1.out),HS2.out⟩
    case measure=>simp [intOf];omega
  ·obtain rfl:k=10:=(by omega);have HST0:Hid (ColSt wr C (C+1) ⟨[],zf7 10 ++ zkG (lang == wEs) 0,[]⟩):=HST;obtain ⟨es,HES⟩:∃ es,Hid ((lang == wEs)=es):=⟨_,rfl⟩;rw[HES.out] at HST0;clear HST;go_wp2_with fail;obtain ⟨wo,rfl⟩:∃ wo:World,wo=wr:=⟨_,rfl⟩;go_loopw [8] (fun i wr=>∃ (k:Nat),k<=26/\i=.int .i64 k/\Hid (ColSt wr C (C+1) ⟨[],zf7 10 ++ zkG es k,[]⟩)/\Hid (Only (fun g=>g=C\/C+1<=g) w0 wr)) (fun i _=>26 - (intOf i).toNat)
   case atStart=>exact ⟨0,Nat.zero_le _,rfl,HST0.out,HON.out⟩
   case round =>
    clear HON HST0;obtain ⟨k,hk,rfl,HST,HON⟩:=hrel;by_cases hlt:k<26
    ·have hdl:(zf7 10 ++ zkG es k).length<=62:=by
      rw[List.length_append,zg7];have:=zk6 es k;omega
     obtain ⟨ds,HDS⟩:∃ ds,Hid (zf7 10 ++ zkG es k=ds):=⟨_,rfl⟩;have HNX:Hid (zf7 10 ++ zkG es (k+1)=ds ++ zBk es k):=(by rw[<- HDS.out,zmI,List.append_assoc];exact Hd rfl);rw[HDS.out] at HST hdl;obtain ⟨vR,vO,hb,hR,hO⟩:=HST.out;obtain ⟨hl1,hl2,hl3⟩:=zFu k hlt;obtain ⟨x1,HX1⟩:∃ z,Hid (UInt8.ofNat (97+k)=z):=⟨_,rfl⟩;obtain ⟨x2,HX2⟩:∃ z,Hid (UInt8.ofNat (65+k)=z):=⟨_,rfl⟩;have HLT:Hid (zBk es k=[x1,x2] :: (if es=true/\k=13 then [nyB] else [])):=(by show _=_;rw[<- HX1.out,<- HX2.out];rfl);rw[HLT.out] at HNX;have hwk:IntKind.i64.wrap ((k:Int)+1)=(k:Int)+1:=IntWalk.i64_in _ (by omega);have r1:=fun w=>zhH (P:=Tryz.prog) (t:=9) Tryz.underlying9 zFt k (k+1) (by omega) (by show k+1<=26;omega) (k:Int) ((k:Int)+1) rfl (by omega) [x1] (by rw[<- HX1.out];rw[show k+1 - k=1 by omega];exact hl1) w;have r2:=fun w=>zhH (P:=Tryz.prog) (t:=9) Tryz.underlying9 zFW k (k+1) (by omega) (by show k+1<=26;omega) (k:Int) ((k:Int)+1) rfl (by omega) [x2] (by rw[<- HX2.out];rw[show k+1 - k=1 by omega];exact hl2) w;have r3:=fun w=>zc0 (P:=Tryz.prog) (t:=9) Tryz.underlying9 zFt k (by show k<26;omega) k rfl w;rw[hl3] at r3;unfold zFt at r1 r3;unfold zFW at r2;have HBB:=Hd hb;have HR:=Hd hR;have HO:=Hd hO;have hz:=hb.lt;obtain ⟨aO,cO,rfl,_,_,_⟩:=zaV hO;have c1:wr.drew.cell? ⟨C,1,none⟩=some (.slice aO ds.length cO):=hb.cell 1 _ rfl;have hbs:C+1<=wr.heap.size:=(by omega);have hka:=(zaB wr 1).trans (zaA wr.drew (.cells #[.string (bs [x1,x2])] 9));have HB2:Hid (Blk (wr.drew.alloc (.cells #[.string (bs [x1,x2])] 9)) C 88 _):=HBB.out.kept hka;have HR2:=Hd (zaP HR.out hka);have HO2:Hid (World.ownsRow (wr.drew.alloc (.cells #[.string (bs [x1,x2])] 9)) (C+1) 9 1 _ ds.length (zaF ds)):=zaP HO.out hka;have HK2:=Hd hka;have HN2:=Hd (ztO wr.drew [x1,x2]);have c1w:wr.cell? ⟨C,1,none⟩=some (.slice aO ds.length cO):=HBB.out.cell 1 _ rfl;have c1a:(wr.drew.alloc (.cells #[.string (bs [x1,x2])] 9)).cell? ⟨C,1,none⟩=some (.slice aO ds.length cO):=HB2.out.cell 1 _ rfl;have hb2:C+1<=(wr.drew.alloc (.cells #[.string (bs [x1,x2])] 9)).heap.size:=Nat.le_trans hbs hka.size;clear hl1 hl2 hl3 hb hR hO HST hka;go_wp2_with fail
     go_region_law ((refine zdV _ rfl (.tmp 27) (.tmp 39) rfl (C+1) _ ds (by rfl) HO2.out _ [[x1,x2]] (by rfl) HN2.out (by simp;omega) hb2 ?_;intro v' w3 hown3 hgrow3;have hb3:=(hgrow3.block C HB2.out.lt (zbI HO2.out HB2.out (by decide))).trans HB2.out;have f3:w3.frozen? ⟨C,1,none⟩=false:=(show Blk w3 C 88 _ from hb3).free 1;have c3:w3.cell? ⟨C,1,none⟩=some (.slice aO ds.length cO):=(show Blk w3 C 88 _ from hb3).cell 1 _ rfl;have z3:=(show Blk w3 C 88 _ from hb3).lt;have HG3:=Hd hgrow3;have HO3:=Hd hown3;obtain ⟨a3,c3',rfl,_,_,_⟩:=zaV hown3;clear hgrow3 hown3 hb3))
     all_goals
      have hS:=zg3 (c:=⟨[],ds,[]⟩) (ws:=[[x1,x2]]) HB2.out HR2.out HO2.out HO3.out HG3.out;rw[show (ds ++ [[x1,x2]]).length=ds.length+1 from by simp] at hS;have HS1:=Hd hS.1;have HS2:=Hd ((HON.out.trans (Only.of_kept HK2.out)).trans hS.2);clear hS HB2 HR2 HO2 HO3 HG3 HN2 HK2 c1 c1w c1a f3 c3 z3 hb2 HBB HR HO hz hbs HON;generalize w3.setCell ⟨C,1,none⟩ (Value.slice a3 (ds.length+1) c3')=w4 at *;by_cases hq:es=true/\k=13
      ·have hix:(ix == 3)=true:=(by rw[beq_iff_eq];exact HI3.out.2 (by have h:=HES.out;rw[hq.1] at h;simpa using h));have h97:(97+(k:Int) == 110)=true:=(by rw[hq.2];rfl);rw[if_pos hq] at HNX;obtain ⟨dt,HDT⟩:∃ dt,Hid (ds ++ [[x1,x2]]=dt):=⟨_,rfl⟩;have hdt:dt.length<=63:=(by rw[<- HDT.out,List.length_append];simp;omega);have HLC:Hid (zf7 10 ++ zkG es (k+1)=dt ++ [[195,177,195,145]]):=(by show _=_;rw[HNX.out,<- HDT.out,List.append_assoc];rfl);rw[HDT.out] at HS1;obtain ⟨vR,vO,hb,hR,hO⟩:=HS1.out;have HBB:=Hd hb;have HR:=Hd hR;have HO:=Hd hO;have hz:=hb.lt;obtain ⟨aO,cO,rfl,_,_,_⟩:=zaV hO;have c1:w4.cell? ⟨C,1,none⟩=some (.slice aO dt.length cO):=hb.cell 1 _ rfl;have hbs:C+1<=w4.heap.size:=(by omega);have hka:=zaA w4 (.cells #[.string (bs [195,177,195,145])] 9);have HN2:=Hd (Blk.new w4 9 #[.string (bs [195,177,195,145])]);have HB2:=Hd (HBB.out.kept hka);have HR2:=Hd (zaP HR.out hka);have HO2:=Hd (zaP HO.out hka);have HK2:=Hd hka;have hb2:=Nat.le_trans hbs hka.size;clear hka hb hR hO HBB HR HO HS1 hq;go_wp2_with (first
        | (refine zd1 _ rfl (.tmp 51) (.tmp 52) rfl (C+1) _ dt (by rfl) HO2.out [195,177,195,145] _ (by rfl) HN2.out (by omega) hb2 ?_;intro v' w5 hown3 hgrow3;have hb3:=(hgrow3.block C HB2.out.lt (zbI HO2.out HB2.out (by decide))).trans HB2.out;have f3:w5.frozen? ⟨C,1,none⟩=false:=(show Blk w5 C 88 _ from hb3).free 1;have c3:w5.cell? ⟨C,1,none⟩=some (.slice aO dt.length cO):=(show Blk w5 C 88 _ from hb3).cell 1 _ rfl;have z3:=(show Blk w5 C 88 _ from hb3).lt;have HG3:=Hd hgrow3;have HO3:=Hd hown3;obtain ⟨a3,c3',rfl,_,_,_⟩:=zaV hown3;clear hgrow3 hown3 hb3))
       have hS:=zg3 (c:=⟨[],dt,[]⟩) (ws:=[[195,177,195,145]]) HB2.out HR2.out HO2.out HO3.out HG3.out;have hln:(dt ++ [[195,177,195,145]]).length=dt.length+1:=(by rw[List.length_append];rfl);simp only[hln] at hS;have hS1:ColSt _ C (C+1) ⟨[],dt ++ [[195,177,195,145]],[]⟩:=hS.1;rw[<- HLC.out] at hS1;have HS3:=Hd hS1;have HS4:=Hd ((HS2.out.trans (Only.of_kept HK2.out)).trans hS.2);clear hS hS1 HB2 HR2 HO2 HO3 HG3 HN2 HK2 c1 f3 c3 z3;go_wp2_with fail;go_roundw
       case rel=>exact ⟨k+1,by omega,by go_num,HS3.out,HS4.out⟩
       case measure=>simp [intOf];omega
      ·rw[if_neg hq] at HNX;rw[<- HNX.out] at HS1;by_cases hes0:es=true
       ·have hix:(ix == 3)=true:=(by rw[beq_iff_eq];exact HI3.out.2 (by have h:=HES.out;rw[hes0] at h;simpa using h));have hk13:k≠13:=fun e=>hq ⟨hes0,e⟩;have h97:(97+(k:Int) == 110)=false:=(by rw[beq_eq_false_iff_ne];omega);rw[hes0] at HS1;clear hq;go_wp2_with fail;go_roundw
        case rel=>first|exact ⟨k+1,by omega,by go_num,HS1.out,HS2.out⟩|exact ⟨k+1,by omega,by omega,HS1.out⟩|exact ⟨k+1,by omega,by go_num,HSF.out,HS2.out⟩|exact ⟨k+1,by omega,by omega,HSF.out⟩
        case measure=>simp [intOf];omega
       ·have hix:(ix == 3)=false:=(by rw[beq_eq_false_iff_ne];exact fun q=>hes0 (by rw[<- HES.out];simpa using HI3.out.1 q));have hes1:es=false:=(by simpa using hes0);have HSF:Hid (ColSt w4 C (C+1) ⟨[],zf7 10 ++ zkG false (k+1),[]⟩):=(by have h:=HS1.out;rw[hes1] at h;exact h);clear hq hes0;go_wp2_with fail;go_roundw
        case rel=>first|exact ⟨k+1,by omega,by go_num,HS1.out,HS2.out⟩|exact ⟨k+1,by omega,by omega,HS1.out⟩|exact ⟨k+1,by omega,by go_num,HSF.out,HS2.out⟩|exact ⟨k+1,by omega,by omega,HSF.out⟩
        case measure=>simp [intOf];omega
    ·obtain rfl:k=26:=(by omega);rw[<- HES.out] at HST;obtain ⟨ds,HDS⟩:∃ ds,Hid (zf7 10 ++ zkG (lang == wEs) 26=ds):=⟨_,rfl⟩;have HLO:Hid (zoB lang=⟨rkL lang,ds,[]⟩):=by
      show _=_;rw[<- HDS.out];rfl
     rw[HDS.out] at HST;rw[HLO.out] at HFIN;obtain ⟨vR,vO,hb,hR,hO⟩:=HST.out;have HRR:=Hd (HRB.out.onl HON.out (by omega));have HKW:Hid (Kept w wr):=HK0.out.trans' (HON.out.below HK0.out.size (fun i e=>by have:=HWC.out;omega));have HCB:=Hd hb;have HOO:Hid (Strs wr vO ds):=Strs.own hO;have HOL:Hid (∀ g,vO.ownBlock=some g->C+1<=g/\g<wr.heap.size):=fun g q=>hO.lt g q;obtain ⟨aO,cO,rfl,_,_,_⟩:=zaV hO;obtain ⟨aR,cR,hvR,_,_,_⟩:=zaV hR;have hvR':vR=.slice aR 0 cR:=hvR;subst hvR';have hcz:=hb.lt;have hrz:=HRR.out.lt;clear hb hR hO HDS HLO HES;rcases zE7 lang with h1|h1|h1|⟨h1,h2,h3⟩
     case' inl =>
      have HRK:Hid (rkL lang=zAk):=(by show _=_;subst h1;decide +kernel);rw[HRK.out] at HFIN;have hka:=zaA wr (.cells (zaF zER).toArray 9);have HRU:=Hd (zgN _ zER _ (zl6 wr zER) (by rw[zDt.2];omega) ⟨7,by rw[zDt.2]⟩);rw[zDt.1,zDt.2] at HRU;unfold RulP at HRU;rw[World.size_alloc] at HRU;obtain ⟨rk,HRQ⟩:∃ rk,Hid (zAk=rk):=⟨_,rfl⟩;rw[HRQ.out] at HRU HFIN;unfold zER zaF at HRU hka;simp only[List.map_cons,List.map_nil] at HRU hka;have HXX:Hid (ix=1):=HI1.out.2 h1
     case' inr.inl =>
      have HRK:Hid (rkL lang=zAl):=(by show _=_;subst h1;decide +kernel);rw[HRK.out] at HFIN;have hka:=zaA wr (.cells (zaF zES).toArray 9);have HRU:=Hd (zgN _ zES _ (zl6 wr zES) (by rw[zDu.2];omega) ⟨28,by rw[zDu.2]⟩);rw[zDu.1,zDu.2] at HRU;unfold RulP at HRU;rw[World.size_alloc] at HRU;obtain ⟨rk,HRQ⟩:∃ rk,Hid (zAl=rk):=⟨_,rfl⟩;rw[HRQ.out] at HRU HFIN;unfold zES zaF at HRU hka;simp only[List.map_cons,List.map_nil] at HRU hka;have HXX:Hid (ix=2):=HI2.out.2 h1
     case' inr.inr.inl =>
      have HRK:Hid (rkL lang=zAm):=(by show _=_;subst h1;decide +kernel);rw[HRK.out] at HFIN;have hka:=zaA wr (.cells (zaF zET).toArray 9);have HRU:=Hd (zgN _ zET _ (zl6 wr zET) (by rw[zDv.2];omega) ⟨12,by rw[zDv.2]⟩);rw[zDv.1,zDv.2] at HRU;unfold RulP at HRU;rw[World.size_alloc] at HRU;obtain ⟨rk,HRQ⟩:∃ rk,Hid (zAm=rk):=⟨_,rfl⟩;rw[HRQ.out] at HRU HFIN;unfold zET zaF at HRU hka;simp only[List.map_cons,List.map_nil] at HRU hka;have HXX:Hid (ix=3):=HI3.out.2 h1
     case inr.inr.inr =>
      have HRK:Hid (rkL lang=[]):=by
       show _=_;unfold rkL;rw[if_neg h1,if_neg h2,if_neg h3]
      rw[HRK.out] at HFIN;have n1:(ix == 1)=false:=(by rw[beq_eq_false_iff_ne];exact fun q=>h1 (HI1.out.1 q));have n2:(ix == 2)=false:=(by rw[beq_eq_false_iff_ne];exact fun q=>h2 (HI2.out.1 q));have n3:(ix == 3)=false:=(by rw[beq_eq_false_iff_ne];exact fun q=>h3 (HI3.out.1 q));clear HON HST;go_wp2_with (first
       | (refine zaT (by rfl) 88 (.tmp 4) (by rfl) C _ (by rfl) HCB.out _ Tryz.underlying88 rfl Tryz.sizeCo ?_)
       | (refine za4 rfl 88 (.tmp 2) (.tmp 71) (by rfl) B _ #[.slice aR 0 cR,.slice aO ds.length cO,.string (bs [])] (by rfl) (by rfl) HRR.out rfl Tryz.sizeCo (by simp only[List.all_toArray,List.all_cons,List.all_nil];rfl) ?_;intro w9 hb9 ho9;have r0:w9.cell? ⟨B,0,none⟩=some (.slice aR 0 cR):=hb9.cell 0 _ rfl;have r1:w9.cell? ⟨B,1,none⟩=some (.slice aO ds.length cO):=hb9.cell 1 _ rfl;have r2:w9.cell? ⟨B,2,none⟩=some (.string (bs [])):=hb9.cell 2 _ rfl;have rz:=hb9.lt;have HO9:=Hd ho9;clear hb9 ho9))
      refine bodyPost_ret (v:=zmZ (.slice aR 0 cR) (.slice aO ds.length cO) []) ?_ rfl (HFIN.out (.slice aR 0 cR) (.slice aO ds.length cO) w9 ⟨?_,?_⟩ ?_)
      ·simp [results,Tryz.results45,go_sem,r0,r1,r2,rz]
      ·exact ⟨_,_,rfl,Nat.zero_le _,fun h=>absurd h (by simp)⟩
      ·exact HOO.out.onlS (S:=fun g=>C+1<=g) (fun _ g q=>(HOL.out g q).1) HO9.out (fun g _ hs q=>by have hs':C+1<=g:=hs;omega)
      ·exact HKW.out.trans' (HO9.out.below HKW.out.size (fun i e=>by have:=HWB.out;omega))
     all_goals
      have HBW:=Hd (HCB.out.kept hka);have HRW:=Hd (HRR.out.kept hka);have HOW:=Hd (HOO.out.kept hka);have HKX:=Hd (HKW.out.trans hka);rw[HXX.out];clear HRK HRQ hka HON HST HRR HCB;go_wp2_with fail;refine HRU.out.mono ?_;rintro e w5 ⟨vr,rfl,hown,hk5⟩;have HPR:Hid (Prs w5 vr rk):=Prs.own hown;have HRL2:Hid (∀ g,vr.ownBlock=some g->wr.heap.size+1<=g/\g<w5.heap.size):=fun g q=>hown.lt g q;obtain ⟨a5,c5,rfl,_,_,_⟩:=zaV hown;have HB5:=Hd (HBW.out.kept hk5);have HB6:Hid (Blk (w5.setCell ⟨C,0,none⟩ (.slice a5 rk.length c5)) C 88 #[.slice a5 rk.length c5,.slice aO ds.length cO,.string (bs [])]):=(HBW.out.kept hk5).set 0 (.slice a5 rk.length c5);have HR5:=Hd (HRW.out.kept hk5);have HR6:=Hd (HR5.out.onl (S:=fun i=>i=C) (Only.setCell C 0 (.slice a5 rk.length c5)) (by omega));have HO5:=Hd (HOW.out.kept hk5);have HK5:=Hd (HKX.out.trans hk5);have f0:=HB5.out.free 0;have c0:=HB5.out.cell 0 _ rfl;have cz:=HB5.out.lt;clear hown hk5 HRU HBW HRW HOW HKX;go_wp2_with (first
       | (refine zaT (by rfl) 88 (.tmp 4) (by rfl) C _ (by rfl) HB6.out _ Tryz.underlying88 rfl Tryz.sizeCo ?_)
       | (refine za4 rfl 88 (.tmp 2) (.tmp 71) (by rfl) B _ #[.slice a5 rk.length c5,.slice aO ds.length cO,.string (bs [])] (by rfl) (by rfl) HR6.out rfl Tryz.sizeCo (by simp only[List.all_toArray,List.all_cons,List.all_nil];rfl) ?_;intro w9 hb9 ho9;have r0:w9.cell? ⟨B,0,none⟩=some (.slice a5 rk.length c5):=hb9.cell 0 _ rfl;have r1:w9.cell? ⟨B,1,none⟩=some (.slice aO ds.length cO):=hb9.cell 1 _ rfl;have r2:w9.cell? ⟨B,2,none⟩=some (.string (bs [])):=hb9.cell 2 _ rfl;have rz:=hb9.lt;have HO9:Hid (Only (fun i=>i=C\/i=B) w5 w9):=Only.trans ((Only.setCell C 0 (.slice a5 rk.length c5)).mono (fun i _ h=>.inl h)) (ho9.mono (fun i _ h=>.inr h));clear hb9 ho9))
      refine bodyPost_ret (v:=zmZ (.slice a5 rk.length c5) (.slice aO ds.length cO) []) ?_ rfl (HFIN.out (.slice a5 rk.length c5) (.slice aO ds.length cO) w9 ⟨?_,?_⟩ ?_)
      ·simp [results,Tryz.results45,go_sem,r0,r1,r2,rz]
      ·exact HPR.out.onlS (S:=fun g=>C+1<=g) (fun _ g q=>by have:=(HRL2.out g q).1;show C+1<=g;omega) HO9.out (fun g _ hs q=>by have hs':C+1<=g:=hs;omega)
      ·exact HO5.out.onlS (S:=fun g=>C+1<=g) (fun _ g q=>(HOL.out g q).1) HO9.out (fun g _ hs q=>by have hs':C+1<=g:=hs;omega)
      ·exact HK5.out.trans' (HO9.out.below HK5.out.size (fun i e=>by have:=HWC.out;have:=HWB.out;omega))
end Go.Proofs.YtmcoomlkbgiboaaGreatDoor
