/- Is a text in a list; how often; are lists of texts equal (ref32 has, count; law32 texts). Conditions: lengths. -/
import Derived.Test.YtmcoomlkbgiboaaGreatDoorV02
import Derived.Test.YtmcoomlkbgiboaaGreatDoorV23
import Derived.Test.YtmcoomlkbgiboaaGreatDoorV27
import Derived.Test.YtmcoomlkbgiboaaGreatDoorV17
import Derived.Test.YtmcoomlkbgiboaaGreatDoorV24
import Derived.Test.YtmcoomlkbgiboaaGreatDoorV12
import Derived.Test.YtmcoomlkbgiboaaGreatDoorV09
import Derived.Test.YtmcoomlkbgiboaaGreatDoorV07
import Derived.Test.YtmcoomlkbgiboaaGreatDoorV13
import Derived.Test.YtmcoomlkbgiboaaGreatDoorV22
import Derived.Test.YtmcoomlkbgiboaaGreatDoorV29
import Derived.Test.YtmcoomlkbgiboaaGreatDoorV26
import Derived.BigQuiet
import Derived.Great.BuildSlice
set_option linter.all false
set_option maxRecDepth 100000
set_option maxHeartbeats 12800000
namespace Go.Proofs.YtmcoomlkbgiboaaGreatDoor
open Go.RowKit
theorem zwO {l:List Bs} {k:Nat} {y x:Bs} (h:l[k]? = some y):(l.take (k+1)).count x=(l.take k).count x+(if (y == x)=true then 1 else 0):=by
 rw[List.take_succ,h,List.count_append];congr 1;show [y].count x=_;rw[List.count_cons,List.count_nil,Nat.zero_add]
theorem zgL {α:Type} {a b:List α} {k:Nat} {x:α} (h1:a[k]? = some x) (h2:b[k]? = some x) (h:a.take k=b.take k):a.take (k+1)=b.take (k+1):=by
 rw[List.take_succ,List.take_succ,h,h1,h2]
theorem ztL {α:Type} {a b:List α} {k:Nat} {x y:α} (h1:a[k]? = some x) (h2:b[k]? = some y) (h:x≠y):a≠b:=fun e=>by
 subst e;rw[h1] at h2;exact h (Option.some.inj h2)
theorem zDH {w:World} {a:Option Addr} {n c:Nat} {ps:List Pr} (h:Prs w (.slice a n c) ps) (j:Nat) (q:Pr) (hq:ps[j]? = some q) :
  ∃ g o,a=some ⟨g,o,none⟩/\g<w.heap.size/\w.cell? ⟨g,o+j * 2,none⟩=some (.string (bs q.1))/\w.cell? ⟨g,o+j * 2+1,none⟩=some (.string (bs q.2)):=by
 obtain ⟨a',c',hv,hc,h3⟩:=h;obtain ⟨rfl,rfl,rfl⟩:=Value.slice.inj hv;obtain ⟨hk,_⟩:=List.getElem?_eq_some_iff.1 hq;obtain ⟨g,o,ha,hg,hcell⟩:=h3 (by omega);obtain ⟨c0,c1⟩:=hcell j q hq;exact ⟨g,o,ha,hg,c0,c1⟩
theorem ziV (v v':Value) (xs ys:List P4) (w:World) (hv:Perss w v xs) (hv':Perss w v' ys) (hl:xs.length<=1100000) (hl':ys.length<=1100000) :
  Calls Tryz.prog 47 #[v,v'] w fun e w'=>e=.returned (.bool (decide (xs=ys)))/\∃ m,w'=w.drewN m:=by
 have HV:=Hd hv;have HV2:=Hd hv';obtain ⟨a,c,rfl,hc⟩:=(show ∃ a c,v=.slice a xs.length c/\xs.length<=c by obtain ⟨a,c,e,l,_⟩:=hv;exact ⟨a,c,e,l⟩);obtain ⟨b,d,rfl,hd⟩:=(show ∃ a c,v'=.slice a ys.length c/\ys.length<=c by obtain ⟨a,c,e,l,_⟩:=hv';exact ⟨a,c,e,l⟩);have HT:Hid (xs=ys->decide (xs=ys)=true):=fun h=>decide_eq_true h;have HN:Hid (xs≠ys->decide (xs=ys)=false):=fun h=>decide_eq_false h;generalize decide (xs=ys)=R at *;clear hv hv';by_cases hlen:xs.length=ys.length
 ·have hlb:((xs.length:Int) == (ys.length:Int))=true:=(by simp [hlen]);have hln:((xs.length:Int) != (ys.length:Int))=false:=(by simp [hlen]);have HL:=Hd hlen;clear hlen;go_enter Tryz.func47,Tryz.ntmps47;go_wp2_with fail;go_loopw [5] (fun i wr=>∃ k:Nat,k<=xs.length/\i=.int .i64 k/\Hid (xs.take k=ys.take k)/\Hid (∃ m,wr=w.drewN m)) (fun i _=>xs.length - (intOf i).toNat)
  case atStart=>exact ⟨0,Nat.zero_le _,rfl,(by show xs.take 0=ys.take 0;simp),0,rfl⟩
  case round =>
   clear hlb hln;obtain ⟨k,hk,rfl,HX,HKR⟩:=hrel;have HKK:Hid (Kept w wr):=(by obtain ⟨m,hm⟩:=HKR.out;rw[hm];exact zaB _ _);by_cases hlt:k<xs.length
   ·have hlt2:k<ys.length:=(by have:=HL.out;omega);obtain ⟨x,hx⟩:∃ z,xs[k]? = some z:=⟨_,List.getElem?_eq_getElem hlt⟩;obtain ⟨y,hy⟩:∃ z,ys[k]? = some z:=⟨_,List.getElem?_eq_getElem hlt2⟩;obtain ⟨g,o,rfl,hg,c0,c1,c2,c3⟩:=Perss.at_ (HV.out.kept HKK.out) k x hx;obtain ⟨g2,o2,rfl,hg2,d0,d1,d2,d3⟩:=Perss.at_ (HV2.out.kept HKK.out) k y hy;obtain ⟨x0,x1,x2,x3⟩:=x;obtain ⟨y0,y1,y2,y3⟩:=y;simp only at c0 d0 c1 d1 c2 d2 c3 d3;clear HKK;by_cases hz:x0=y0
    ·subst hz;by_cases hz:x1=y1
     ·subst hz;by_cases hz:x2=y2
      ·subst hz;by_cases hz:x3=y3
       ·subst hz;have HX2:=Hd (zgL hx hy HX.out);clear hx hy HX;go_wp2_with fail
        go_quiet (fail)
        go_wp2_with fail;go_roundw
        case rel=>exact ⟨k+1,by omega,by go_num,HX2.out,by obtain ⟨m,hm⟩:=HKR.out;exact ⟨m+nq,by rw[hm,World.drewN_drewN]⟩⟩
        case measure=>simp [intOf];omega
       ·have hzb:(x3 == y3)=false:=(by rw[beq_eq_false_iff_ne];exact hz);have hzn:(x3 != y3)=true:=(by rw[bne_iff_ne];exact hz);obtain rfl:=HN.out (ztL hx hy (fun e=>hz (congrArg (fun z=>z.2.2.2) e)));clear hx hy HX;go_wp2_with fail
        go_quiet (fail)
        go_wp2_with fail;go_ret;refine ⟨rfl,?_⟩;obtain ⟨m,hm⟩:=HKR.out;exact ⟨m+nq,by rw[hm,World.drewN_drewN]⟩
      ·have hzb:(x2 == y2)=false:=(by rw[beq_eq_false_iff_ne];exact hz);have hzn:(x2 != y2)=true:=(by rw[bne_iff_ne];exact hz);obtain rfl:=HN.out (ztL hx hy (fun e=>hz (congrArg (fun z=>z.2.2.1) e)));clear hx hy HX;go_wp2_with fail
       go_quiet (fail)
       go_wp2_with fail;go_ret;refine ⟨rfl,?_⟩;obtain ⟨m,hm⟩:=HKR.out;exact ⟨m+nq,by rw[hm,World.drewN_drewN]⟩
     ·have hzb:(x1 == y1)=false:=(by rw[beq_eq_false_iff_ne];exact hz);have hzn:(x1 != y1)=true:=(by rw[bne_iff_ne];exact hz);obtain rfl:=HN.out (ztL hx hy (fun e=>hz (congrArg (fun z=>z.2.1) e)));clear hx hy HX;go_wp2_with fail
      go_quiet (fail)
      go_wp2_with fail;go_ret;refine ⟨rfl,?_⟩;obtain ⟨m,hm⟩:=HKR.out;exact ⟨m+nq,by rw[hm,World.drewN_drewN]⟩
    ·have hzb:(x0 == y0)=false:=(by rw[beq_eq_false_iff_ne];exact hz);have hzn:(x0 != y0)=true:=(by rw[bne_iff_ne];exact hz);obtain rfl:=HN.out (ztL hx hy (fun e=>hz (congrArg Prod.fst e)));clear hx hy HX;go_wp2_with fail
     go_quiet (fail)
     go_wp2_with fail;go_ret;refine ⟨rfl,?_⟩;obtain ⟨m,hm⟩:=HKR.out;exact ⟨m+nq,by rw[hm,World.drewN_drewN]⟩
   ·obtain rfl:k=xs.length:=(by omega);obtain rfl:=HT.out (by have:=HX.out;rwa [List.take_length,HL.out,List.take_length] at this);clear HX HT HN HKK;go_wp2_with fail;go_ret;exact ⟨rfl,HKR.out⟩
 ·have hlb:((xs.length:Int) == (ys.length:Int))=false:=(by rw[beq_eq_false_iff_ne];omega);obtain rfl:=HN.out (fun e=>hlen (by rw[e]));go_enter Tryz.func47,Tryz.ntmps47;go_wp2_with fail;go_ret;exact ⟨rfl,0,rfl⟩
theorem zwP (v v':Value) (xs ys:List Pr) (w:World) (hv:Prs w v xs) (hv':Prs w v' ys) (hl:xs.length<=1100000) (hl':ys.length<=1100000) :
  Calls Tryz.prog 48 #[v,v'] w fun e w'=>e=.returned (.bool (decide (xs=ys)))/\∃ m,w'=w.drewN m:=by
 have HV:=Hd hv;have HV2:=Hd hv';obtain ⟨a,c,rfl,hc⟩:=(show ∃ a c,v=.slice a xs.length c/\xs.length<=c by obtain ⟨a,c,e,l,_⟩:=hv;exact ⟨a,c,e,l⟩);obtain ⟨b,d,rfl,hd⟩:=(show ∃ a c,v'=.slice a ys.length c/\ys.length<=c by obtain ⟨a,c,e,l,_⟩:=hv';exact ⟨a,c,e,l⟩);have HT:Hid (xs=ys->decide (xs=ys)=true):=fun h=>decide_eq_true h;have HN:Hid (xs≠ys->decide (xs=ys)=false):=fun h=>decide_eq_false h;generalize decide (xs=ys)=R at *;clear hv hv';by_cases hlen:xs.length=ys.length
 ·have hlb:((xs.length:Int) == (ys.length:Int))=true:=(by simp [hlen]);have hln:((xs.length:Int) != (ys.length:Int))=false:=(by simp [hlen]);have HL:=Hd hlen;clear hlen;go_enter Tryz.func48,Tryz.ntmps48;go_wp2_with fail;go_loopw [5] (fun i wr=>∃ k:Nat,k<=xs.length/\i=.int .i64 k/\Hid (xs.take k=ys.take k)/\Hid (∃ m,wr=w.drewN m)) (fun i _=>xs.length - (intOf i).toNat)
  case atStart=>exact ⟨0,Nat.zero_le _,rfl,(by show xs.take 0=ys.take 0;simp),0,rfl⟩
  case round =>
   clear hlb hln;obtain ⟨k,hk,rfl,HX,HKR⟩:=hrel;have HKK:Hid (Kept w wr):=(by obtain ⟨m,hm⟩:=HKR.out;rw[hm];exact zaB _ _);by_cases hlt:k<xs.length
   ·have hlt2:k<ys.length:=(by have:=HL.out;omega);obtain ⟨x,hx⟩:∃ z,xs[k]? = some z:=⟨_,List.getElem?_eq_getElem hlt⟩;obtain ⟨y,hy⟩:∃ z,ys[k]? = some z:=⟨_,List.getElem?_eq_getElem hlt2⟩;obtain ⟨g,o,rfl,hg,c0,c1⟩:=zDH (HV.out.kept HKK.out) k x hx;obtain ⟨g2,o2,rfl,hg2,d0,d1⟩:=zDH (HV2.out.kept HKK.out) k y hy;obtain ⟨x0,x1⟩:=x;obtain ⟨y0,y1⟩:=y;simp only at c0 d0 c1 d1;clear HKK;by_cases hz:x0=y0
    ·subst hz;by_cases hz:x1=y1
     ·subst hz;have HX2:=Hd (zgL hx hy HX.out);clear hx hy HX;go_wp2_with fail
      go_quiet (fail)
      go_wp2_with fail;go_roundw
      case rel=>exact ⟨k+1,by omega,by go_num,HX2.out,by obtain ⟨m,hm⟩:=HKR.out;exact ⟨m+nq,by rw[hm,World.drewN_drewN]⟩⟩
      case measure=>simp [intOf];omega
     ·have hzb:(x1 == y1)=false:=(by rw[beq_eq_false_iff_ne];exact hz);have hzn:(x1 != y1)=true:=(by rw[bne_iff_ne];exact hz);obtain rfl:=HN.out (ztL hx hy (fun e=>hz (congrArg Prod.snd e)));clear hx hy HX;go_wp2_with fail
      go_quiet (fail)
      go_wp2_with fail;go_ret;refine ⟨rfl,?_⟩;obtain ⟨m,hm⟩:=HKR.out;exact ⟨m+nq,by rw[hm,World.drewN_drewN]⟩
    ·have hzb:(x0 == y0)=false:=(by rw[beq_eq_false_iff_ne];exact hz);have hzn:(x0 != y0)=true:=(by rw[bne_iff_ne];exact hz);obtain rfl:=HN.out (ztL hx hy (fun e=>hz (congrArg Prod.fst e)));clear hx hy HX;go_wp2_with fail
     go_quiet (fail)
     go_wp2_with fail;go_ret;refine ⟨rfl,?_⟩;obtain ⟨m,hm⟩:=HKR.out;exact ⟨m+nq,by rw[hm,World.drewN_drewN]⟩
   ·obtain rfl:k=xs.length:=(by omega);obtain rfl:=HT.out (by have:=HX.out;rwa [List.take_length,HL.out,List.take_length] at this);clear HX HT HN HKK;go_wp2_with fail;go_ret;exact ⟨rfl,HKR.out⟩
 ·have hlb:((xs.length:Int) == (ys.length:Int))=false:=(by rw[beq_eq_false_iff_ne];omega);obtain rfl:=HN.out (fun e=>hlen (by rw[e]));go_enter Tryz.func48,Tryz.ntmps48;go_wp2_with fail;go_ret;exact ⟨rfl,0,rfl⟩
theorem Srcs.at_ {w:World} {a:Option Addr} {n c:Nat} {ss:List SrcT} (h:Srcs w (.slice a n c) ss) (j:Nat) (s:SrcT) (hq:ss[j]? = some s) :
  ∃ g o vA vE vF,a=some ⟨g,o,none⟩/\g<w.heap.size/\w.cell? ⟨g,o+j * 5,none⟩=some (.string (bs s.key))/\w.cell? ⟨g,o+j * 5+1,none⟩=some (.string (bs s.type))/\w.cell? ⟨g,o+j * 5+2,none⟩=some vA/\w.cell? ⟨g,o+j * 5+3,none⟩=some vE/\w.cell? ⟨g,o+j * 5+4,none⟩=some vF /\
   Perss w vA s.author/\Perss w vE s.editor/\Prs w vF s.fields:=by
 obtain ⟨a',c',hv,hc,h3⟩:=h;obtain ⟨rfl,rfl,rfl⟩:=Value.slice.inj hv;obtain ⟨hk,_⟩:=List.getElem?_eq_some_iff.1 hq;obtain ⟨g,o,ha,hg,hcell⟩:=h3 (by omega);obtain ⟨vA,vE,vF,d⟩:=hcell j s hq;exact ⟨g,o,vA,vE,vF,ha,hg,d⟩
def eqS (s t:SrcT):Bool:=s.key == t.key && (s.type == t.type && (decide (s.author=t.author) && (decide (s.editor=t.editor) && decide (s.fields=t.fields))))
theorem ztM (s t:SrcT):eqS s t=true↔s=t:=by
 obtain ⟨a,b,c,d,e⟩:=s;obtain ⟨a',b',c',d',e'⟩:=t;simp [eqS]
instance instDecSrcT:DecidableEq SrcT:=fun s t=>decidable_of_iff _ (ztM s t)
theorem zpQ (v v':Value) (xs ys:List SrcT) (w:World) (hv:Srcs w v xs) (hv':Srcs w v' ys) (hl:xs.length<=1100000) (hl':ys.length<=1100000)
  (hx:∀ s∈xs,s.author.length<=1100000/\s.editor.length<=1100000/\s.fields.length<=1100000) (hy:∀ s∈ys,s.author.length<=1100000/\s.editor.length<=1100000/\s.fields.length<=1100000) :
  Calls Tryz.prog 17 #[v,v'] w fun e w'=>e=.returned (.bool (decide (xs=ys)))/\Kept w w':=by
 have HV:=Hd hv;have HV2:=Hd hv';have HFX:=Hd hx;have HFY:=Hd hy;obtain ⟨a,c,rfl,hc⟩:=(show ∃ a c,v=.slice a xs.length c/\xs.length<=c by obtain ⟨a,c,e,l,_⟩:=hv;exact ⟨a,c,e,l⟩);obtain ⟨b,d,rfl,hd⟩:=(show ∃ a c,v'=.slice a ys.length c/\ys.length<=c by obtain ⟨a,c,e,l,_⟩:=hv';exact ⟨a,c,e,l⟩);have HT:Hid (xs=ys->decide (xs=ys)=true):=fun h=>decide_eq_true h;have HN:Hid (xs≠ys->decide (xs=ys)=false):=fun h=>decide_eq_false h;generalize decide (xs=ys)=R at *;clear hv hv' hx hy;by_cases hlen:xs.length=ys.length
 ·have hlb:((xs.length:Int) == (ys.length:Int))=true:=(by simp [hlen]);have hln:((xs.length:Int) != (ys.length:Int))=false:=(by simp [hlen]);have HL:=Hd hlen;clear hlen;go_enter Tryz.func17,Tryz.ntmps17;go_wp2_with fail;go_loopw [5] (fun i wr=>∃ k:Nat,k<=xs.length/\i=.int .i64 k/\Hid (xs.take k=ys.take k)/\Hid (Kept w wr)) (fun i _=>xs.length - (intOf i).toNat)
  case atStart=>exact ⟨0,Nat.zero_le _,rfl,(by show xs.take 0=ys.take 0;simp),Kept.refl _⟩
  case round =>
   clear hlb hln;obtain ⟨k,hk,rfl,HX,HKR⟩:=hrel;by_cases hlt:k<xs.length
   ·have hlt2:k<ys.length:=(by have:=HL.out;omega);obtain ⟨x,hx⟩:∃ z,xs[k]? = some z:=⟨_,List.getElem?_eq_getElem hlt⟩;obtain ⟨y,hy⟩:∃ z,ys[k]? = some z:=⟨_,List.getElem?_eq_getElem hlt2⟩;obtain ⟨l1,l2,l3⟩:=HFX.out x (List.mem_of_getElem? hx);obtain ⟨m1,m2,m3⟩:=HFY.out y (List.mem_of_getElem? hy);obtain ⟨g,o,vA,vE,vF,rfl,hg,c0,c1,c2,c3,c4,pA,pE,pF⟩:=Srcs.at_ (HV.out.kept HKR.out) k x hx;obtain ⟨g2,o2,uA,uE,uF,rfl,hg2,d0,d1,d2,d3,d4,qA,qE,qF⟩:=Srcs.at_ (HV2.out.kept HKR.out) k y hy;have HNE:Hid (eqS x y=false->R=false):=fun h=>HN.out (ztL hx hy (fun e=>by rw[(ztM x y).2 e] at h;cases h));have HEQ:Hid (eqS x y=true->xs.take (k+1)=ys.take (k+1)):=fun h=>zgL hx (by rw[(ztM x y).1 h];exact hy) HX.out;have HPA:=Hd (fun n=>ziV vA uA x.author y.author (wr.drewN n) (pA.kept (zaB wr n)) (qA.kept (zaB wr n)) l1 m1);have HPE:=Hd (fun n=>ziV vE uE x.editor y.editor (wr.drewN n) (pE.kept (zaB wr n)) (qE.kept (zaB wr n)) l2 m2);have HPF:=Hd (fun n=>zwP vF uF x.fields y.fields (wr.drewN n) (pF.kept (zaB wr n)) (qF.kept (zaB wr n)) l3 m3);unfold eqS at HNE HEQ;generalize decide (x.author=y.author)=bA at *;generalize decide (x.editor=y.editor)=bE at *;generalize decide (x.fields=y.fields)=bF at *;clear hx hy HX pA pE pF qA qE qF l1 l2 l3 m1 m2 m3;obtain ⟨x0,x1,xa,xe,xf⟩:=x;obtain ⟨y0,y1,ya,ye,yf⟩:=y;simp only at c0 c1 d0 d1 HNE HEQ;by_cases hz0:x0=y0
    ·subst hz0;by_cases hz1:x1=y1
     ·subst hz1;cases bA with
      | false =>
       obtain rfl:=HNE.out (by simp []);clear HNE HEQ HT HN;go_wp2_with fail;simp only[List.append]
       go_quiet ((first|(go_at_call_of 47 (vA);exact Calls.quiet_of (HPA.out _))|(go_at_call_of 47 (vE);exact Calls.quiet_of (HPE.out _))|(go_at_call 48;exact Calls.quiet_of (HPF.out _))))
       go_wp2_with fail;go_ret;exact ⟨rfl,HKR.out.trans (zaB _ _)⟩
      | true =>
       cases bE with
       | false =>
        obtain rfl:=HNE.out (by simp []);clear HNE HEQ HT HN;go_wp2_with fail;simp only[List.append]
        go_quiet ((first|(go_at_call_of 47 (vA);exact Calls.quiet_of (HPA.out _))|(go_at_call_of 47 (vE);exact Calls.quiet_of (HPE.out _))|(go_at_call 48;exact Calls.quiet_of (HPF.out _))))
        go_wp2_with fail;go_ret;exact ⟨rfl,HKR.out.trans (zaB _ _)⟩
       | true =>
        cases bF with
        | false =>
         obtain rfl:=HNE.out (by simp []);clear HNE HEQ HT HN;go_wp2_with fail;simp only[List.append]
         go_quiet ((first|(go_at_call_of 47 (vA);exact Calls.quiet_of (HPA.out _))|(go_at_call_of 47 (vE);exact Calls.quiet_of (HPE.out _))|(go_at_call 48;exact Calls.quiet_of (HPF.out _))))
         go_wp2_with fail;go_ret;exact ⟨rfl,HKR.out.trans (zaB _ _)⟩
        | true =>
         have HX2:=Hd (HEQ.out (by simp));clear HNE HEQ;go_wp2_with fail;simp only[List.append]
         go_quiet ((first|(go_at_call_of 47 (vA);exact Calls.quiet_of (HPA.out _))|(go_at_call_of 47 (vE);exact Calls.quiet_of (HPE.out _))|(go_at_call 48;exact Calls.quiet_of (HPF.out _))))
         go_wp2_with fail;go_roundw
         case rel=>exact ⟨k+1,by omega,by go_num,HX2.out,HKR.out.trans (zaB _ _)⟩
         case measure=>simp [intOf];omega
     ·have hzb:(x1 == y1)=false:=(by rw[beq_eq_false_iff_ne];exact hz1);have hzn:(x1 != y1)=true:=(by rw[bne_iff_ne];exact hz1);obtain rfl:=HNE.out (by simp [hzb]);clear HNE HEQ HT HN;go_wp2_with fail;simp only[List.append]
      go_quiet ((first|(go_at_call_of 47 (vA);exact Calls.quiet_of (HPA.out _))|(go_at_call_of 47 (vE);exact Calls.quiet_of (HPE.out _))|(go_at_call 48;exact Calls.quiet_of (HPF.out _))))
      go_wp2_with fail;go_ret;exact ⟨rfl,HKR.out.trans (zaB _ _)⟩
    ·have hzb:(x0 == y0)=false:=(by rw[beq_eq_false_iff_ne];exact hz0);have hzn:(x0 != y0)=true:=(by rw[bne_iff_ne];exact hz0);obtain rfl:=HNE.out (by simp [hzb]);clear HNE HEQ HT HN;go_wp2_with fail;simp only[List.append]
     go_quiet ((first|(go_at_call_of 47 (vA);exact Calls.quiet_of (HPA.out _))|(go_at_call_of 47 (vE);exact Calls.quiet_of (HPE.out _))|(go_at_call 48;exact Calls.quiet_of (HPF.out _))))
     go_wp2_with fail;go_ret;exact ⟨rfl,HKR.out.trans (zaB _ _)⟩
   ·obtain rfl:k=xs.length:=(by omega);obtain rfl:=HT.out (by have:=HX.out;rwa [List.take_length,HL.out,List.take_length] at this);clear HX HT HN;go_wp2_with fail;go_ret;exact ⟨rfl,HKR.out⟩
 ·have hlb:((xs.length:Int) == (ys.length:Int))=false:=(by rw[beq_eq_false_iff_ne];omega);obtain rfl:=HN.out (fun e=>hlen (by rw[e]));go_enter Tryz.func17,Tryz.ntmps17;go_wp2_with fail;go_ret;exact ⟨rfl,Kept.refl _⟩
theorem ziW {α:Type} {P:α->Prop} {l:List α} {k:Nat} {x:α} (hx:l[k]? = some x) (h:∀ y∈l.take k,P y) (hp:P x):∀ y∈l.take (k+1),P y:=by
 intro y hy;obtain ⟨hk',rfl⟩:=List.getElem?_eq_some_iff.1 hx;rw[List.take_succ_eq_append_getElem hk'] at hy;rcases List.mem_append.1 hy with q|q
 ·exact h y q
 ·simp at q;subst q;exact hp
theorem zjP {w:World} {v:Value} {ps:List P4} (h:Perss w v ps):∃ a c,v=.slice a ps.length c/\ps.length<=c:=by
 obtain ⟨a,c,hv,hc,_⟩:=h;exact ⟨a,c,hv,hc⟩
theorem zcL (n:Int) (h0 : -9223372036854775808<=n) (h1:n<=9223372036854775807):IntKind.i64.wrap n=n:=IntWalk.i64_in n (by omega)
def FewP (l:List SrcT) (y:StyT) (w:World) (e:Ending) (w':World):Prop:=∃ b:Bool,e=.returned (.bool b)/\(b=true->l.length<=8/\(∀ s∈l,FitL s)/\FewY y)/\Kept w w'
theorem FewP.no {l:List SrcT} {y:StyT} {w w':World} (k:Kept w w'):FewP l y w (.returned (.bool false)) w':=⟨false,rfl,(fun h=>by cases h),k⟩
theorem zAq (l:List SrcT) (y:StyT) (v vE:Value) (w:World) (hv:Srcs w v l) (hE:Prs w vE y.entries) (hl:l.length<=140737488355328) (hfs:∀ s∈l,FitS s) (hfy:FitY y) :
  Calls Tryz.prog 14 #[v,zeJ vE y] w (FewP l y w):=by
 have HE:=Hd hE;have HV:=Hd hv;have HFS:=Hd hfs;obtain ⟨y1,y2,y3,y4,y5,y6,y7,y8,y9,y10⟩:=hfy;have HY10:=Hd y10;clear y10 hfs;obtain ⟨aE,cE,rfl,zE⟩:=hE.form;obtain ⟨a,c,rfl,zV⟩:=(show ∃ a c,v=.slice a l.length c/\l.length<=c by obtain ⟨a,c,e,q,_⟩:=hv;exact ⟨a,c,e,q⟩);clear hE hv;have HNO:Hid (∀ w',Kept w w'->FewP l y w (.returned (.bool false)) w'):=fun w' k=>FewP.no k;have HYES:Hid (∀ w',l.length<=8->(∀ s∈l,FitL s)->FewY y->Kept w w'->FewP l y w (.returned (.bool true)) w'):=fun w' h1 h2 h3 k=>⟨true,rfl,(fun _=>⟨h1,h2,h3⟩),k⟩;have HBK:=Hd (Blk.new w 33 (zaE (.slice aE y.entries.length cE) y));have HK0:=Hd (zaA w (.cells (zaE (.slice aE y.entries.length cE) y) 33));unfold zeJ;unfold zaE at HBK HK0 ⊢;generalize hP:FewP l y w=P at *;clear hP;obtain ⟨s1,HS1⟩:∃ s:Int,Hid ((y.cite.length:Int)+(y.bare.length:Int)=s):=⟨_,rfl⟩;obtain ⟨s2,HS2⟩:∃ s:Int,Hid (s1+(y.between.length:Int)=s):=⟨_,rfl⟩;obtain ⟨s3,HS3⟩:∃ s:Int,Hid (s2+(y.begin_.length:Int)=s):=⟨_,rfl⟩;obtain ⟨s4,HS4⟩:∃ s:Int,Hid (s3+(y.end_.length:Int)=s):=⟨_,rfl⟩;obtain ⟨s5,HS5⟩:∃ s:Int,Hid (s4+(y.sort.length:Int)=s):=⟨_,rfl⟩;obtain ⟨s6,HS6⟩:∃ s:Int,Hid (s5+(y.name.length:Int)=s):=⟨_,rfl⟩;have e1:IntKind.i64.wrap ((y.cite.length:Int)+(y.bare.length:Int))=s1:=(by rw[zcL _ (by omega) (by omega)];exact HS1.out);have e2:IntKind.i64.wrap (s1+(y.between.length:Int))=s2:=(by have:=HS1.out;rw[zcL _ (by omega) (by omega)];exact HS2.out);have e3:IntKind.i64.wrap (s2+(y.begin_.length:Int))=s3:=(by have:=HS1.out;have:=HS2.out;rw[zcL _ (by omega) (by omega)];exact HS3.out);have e4:IntKind.i64.wrap (s3+(y.end_.length:Int))=s4:=(by have:=HS1.out;have:=HS2.out;have:=HS3.out;rw[zcL _ (by omega) (by omega)];exact HS4.out);have e5:IntKind.i64.wrap (s4+(y.sort.length:Int))=s5:=(by have:=HS1.out;have:=HS2.out;have:=HS3.out;have:=HS4.out;rw[zcL _ (by omega) (by omega)];exact HS5.out);have e6:IntKind.i64.wrap (s5+(y.name.length:Int))=s6:=(by have:=HS1.out;have:=HS2.out;have:=HS3.out;have:=HS4.out;have:=HS5.out;rw[zcL _ (by omega) (by omega)];exact HS6.out);by_cases g1:8<l.length
 ·go_enter Tryz.func14,Tryz.ntmps14;go_wp2_with fail;exact HNO.out _ HK0.out
 by_cases g2:12<y.entries.length
 ·go_enter Tryz.func14,Tryz.ntmps14;go_wp2_with fail;exact HNO.out _ HK0.out
 by_cases g3:400<s6
 ·go_enter Tryz.func14,Tryz.ntmps14;go_wp2_with fail;exact HNO.out _ HK0.out
 have HG3:Hid (y.cite.length+y.bare.length+y.between.length+y.begin_.length+y.end_.length+y.sort.length+y.name.length<=400):=by
  have:=HS1.out;have:=HS2.out;have:=HS3.out;have:=HS4.out;have:=HS5.out;have:=HS6.out;show _<=_;omega
 go_enter Tryz.func14,Tryz.ntmps14;go_wp2_with fail;clear e1 e2 e3 e4 e5 e6 HS1 HS2 HS3 HS4 HS5 HS6 g3;generalize w.alloc _=W0 at *;obtain ⟨S,HSS⟩:∃ S,Hid (w.heap.size=S):=⟨_,rfl⟩;rw[HSS.out] at HBK ⊢;go_loopw [5] (fun i wr=>∃ k:Nat,k<=y.entries.length/\i=.int .i64 k/\Hid (∀ q∈y.entries.take k,q.1.length+q.2.length<=300)/\Hid (Kept W0 wr)) (fun i _=>y.entries.length - (intOf i).toNat)
 case atStart=>exact ⟨0,Nat.zero_le _,rfl,(fun q h=>by simp at h),Kept.refl _⟩
 case round =>
  obtain ⟨k,hk,rfl,HN,HKR⟩:=hrel;have t9:wr.cell? ⟨S,9,none⟩=some (.slice aE y.entries.length cE):=(HBK.out.kept HKR.out).cell 9 _ rfl;have zS:=(HBK.out.kept HKR.out).lt;by_cases hlt:k<y.entries.length
  ·obtain ⟨q,hx⟩:∃ x,y.entries[k]? = some x:=⟨_,List.getElem?_eq_getElem hlt⟩;obtain ⟨q1l,q2l⟩:=HY10.out q (List.mem_of_getElem? hx);obtain ⟨g,o,rfl,hg',d0,d1,-,-⟩:=(HE.out.kept (HK0.out.trans HKR.out)).cell_of k q hx;have HST:=Hd (fun hp=>ziW (P:=fun q:Pr=>q.1.length+q.2.length<=300) hx HN.out hp);obtain ⟨p1,p2⟩:=q;simp only at d0 d1 q1l q2l;clear hx;have hk0:(0:Int)<=(k:Int):=(by omega);have hk1:(k:Int)<(y.entries.length:Int):=(by omega);have hk2:((k:Int)).toNat=k:=(by omega);obtain ⟨s1,HS1⟩:∃ s:Int,Hid ((p1.length:Int)+(p2.length:Int)=s):=⟨_,rfl⟩;have e1:IntKind.i64.wrap ((p1.length:Int)+(p2.length:Int))=s1:=(by rw[zcL _ (by omega) (by omega)];exact HS1.out);by_cases hbig:300<s1
   ·have hd:decide ((300:Int)<s1)=true:=decide_eq_true hbig;go_wp2_with fail
    go_quiet (fail)
    go_wp2_with fail;exact HNO.out _ (HK0.out.trans (HKR.out.trans (zaB _ _)))
   ·have hd:decide ((300:Int)<s1)=false:=decide_eq_false hbig;have HS5:=Hd (HST.out (by have h1:=HS1.out;show p1.length+p2.length<=300;omega));go_wp2_with fail
    go_quiet (fail)
    go_wp2_with fail;go_roundw
    case rel=>exact ⟨k+1,by omega,by go_num,HS5.out,HKR.out.trans (zaB _ _)⟩
    case measure=>simp [intOf];omega
  ·have HFY:Hid (FewY y):=⟨by omega,HG3.out,(by have h:=HN.out;rw[List.take_of_length_le (by omega)] at h;exact h),y8⟩;have HKY:=Hd (HK0.out.trans HKR.out);clear HN HG3 HBK HE HY10;go_wp2_with fail;clear t9 zS HKR;obtain ⟨wo,rfl⟩:∃ wo:World,wo=wr:=⟨_,rfl⟩;go_loopw [6] (fun i wr=>∃ k:Nat,k<=l.length/\i=.int .i64 k/\Hid (∀ s∈l.take k,FitL s)/\Hid (Kept wo wr)) (fun i _=>l.length - (intOf i).toNat)
   case atStart=>exact ⟨0,Nat.zero_le _,rfl,(fun q h=>by simp at h),Kept.refl _⟩
   case round =>
    obtain ⟨k,hk,rfl,HN,HKR⟩:=hrel;by_cases hlt:k<l.length
    ·obtain ⟨s,hx⟩:∃ x,l[k]? = some x:=⟨_,List.getElem?_eq_getElem hlt⟩;obtain ⟨l1,l2,l3,l4,l5,l6,l7⟩:=HFS.out s (List.mem_of_getElem? hx);have HL6:=Hd l6;have HL7:=Hd l7;have HST:=Hd (fun hp=>ziW (P:=FitL) hx HN.out hp);have HKX:=Hd (HKY.out.trans HKR.out);obtain ⟨g,o,vA,vD,vF,rfl,hgg,d0,d1,d2,d3,d4,hA,hD,hF⟩:=Srcs.at_ (HV.out.kept HKX.out) k s hx;clear l6 l7 hx;obtain ⟨aA,cA,rfl,zA⟩:=zjP hA;obtain ⟨aD,cD,rfl,zD⟩:=zjP hD;obtain ⟨aF,cF,rfl,zF⟩:=hF.form;have HBS:=Hd (Blk.new wr 50 #[.string (bs s.key),.string (bs s.type),.slice aA s.author.length cA,.slice aD s.editor.length cD,.slice aF s.fields.length cF]);have hks:=zaA wr (.cells #[.string (bs s.key),.string (bs s.type),.slice aA s.author.length cA,.slice aD s.editor.length cD,.slice aF s.fields.length cF] 50);have HA:=Hd (hA.kept hks);have HD:=Hd (hD.kept hks);have HF:=Hd (hF.kept hks);have HKS:=Hd hks;clear hA hD hF hks;by_cases n1:5<s.author.length
     ·go_wp2_with fail;exact HNO.out _ (HKX.out.trans HKS.out)
     by_cases n2:5<s.editor.length
     ·go_wp2_with fail;exact HNO.out _ (HKX.out.trans HKS.out)
     by_cases n3:12<s.fields.length
     ·go_wp2_with fail;exact HNO.out _ (HKX.out.trans HKS.out)
     by_cases n4:200<s.key.length+s.type.length
     ·have n4':(200:Int)<(s.key.length:Int)+(s.type.length:Int):=(by omega);go_wp2_with fail;exact HNO.out _ (HKX.out.trans HKS.out)
     have n4':¬ (200:Int)<(s.key.length:Int)+(s.type.length:Int):=(by omega);go_wp2_with fail;clear d0 d1 d2 d3 d4;have HKW:=Hd (HKR.out.trans HKS.out);generalize wr.alloc _=W1 at *;obtain ⟨B,HBB⟩:∃ B,Hid (wr.heap.size=B):=⟨_,rfl⟩;rw[HBB.out] at HBS ⊢;go_loopw [8] (fun i wq=>∃ j:Nat,j<=s.fields.length/\i=.int .i64 j/\Hid (∀ q∈s.fields.take j,q.1.length+q.2.length<=200)/\Hid (Kept W1 wq)) (fun i _=>s.fields.length - (intOf i).toNat)
     case atStart=>exact ⟨0,Nat.zero_le _,rfl,(fun q h=>by simp at h),Kept.refl _⟩
     case round =>
      obtain ⟨j,hj,rfl,HNF,HKF⟩:=hrel;have t4:wr.cell? ⟨B,4,none⟩=some (.slice aF s.fields.length cF):=(HBS.out.kept HKF.out).cell 4 _ rfl;have zB:=(HBS.out.kept HKF.out).lt;by_cases hlt2:j<s.fields.length
      ·obtain ⟨q,hx⟩:∃ x,s.fields[j]? = some x:=⟨_,List.getElem?_eq_getElem hlt2⟩;obtain ⟨q1l,q2l⟩:=HL6.out q (List.mem_of_getElem? hx);obtain ⟨g,o,rfl,hg',d0,d1,-,-⟩:=(HF.out.kept HKF.out).cell_of j q hx;have HST2:=Hd (fun hp=>ziW (P:=fun q:Pr=>q.1.length+q.2.length<=200) hx HNF.out hp);obtain ⟨p1,p2⟩:=q;simp only at d0 d1 q1l q2l;clear hx;have hk0:(0:Int)<=(j:Int):=(by omega);have hk1:(j:Int)<(s.fields.length:Int):=(by omega);have hk2:((j:Int)).toNat=j:=(by omega);obtain ⟨s1,HS1⟩:∃ s:Int,Hid ((p1.length:Int)+(p2.length:Int)=s):=⟨_,rfl⟩;have e1:IntKind.i64.wrap ((p1.length:Int)+(p2.length:Int))=s1:=(by rw[zcL _ (by omega) (by omega)];exact HS1.out);by_cases hbig:200<s1
       ·have hd:decide ((200:Int)<s1)=true:=decide_eq_true hbig;go_wp2_with fail
        go_quiet (fail)
        go_wp2_with fail;exact HNO.out _ (HKX.out.trans (HKS.out.trans (HKF.out.trans (zaB _ _))))
       ·have hd:decide ((200:Int)<s1)=false:=decide_eq_false hbig;have HS5:=Hd (HST2.out (by have h1:=HS1.out;show p1.length+p2.length<=200;omega));go_wp2_with fail
        go_quiet (fail)
        go_wp2_with fail;go_roundw
        case rel=>exact ⟨j+1,by omega,by go_num,HS5.out,HKF.out.trans (zaB _ _)⟩
        case measure=>simp [intOf];omega
      ·have HFA:Hid (∀ q∈s.fields,q.1.length+q.2.length<=200):=(by have h:=HNF.out;rw[List.take_of_length_le (by omega)] at h;exact h);have HKQ:=Hd (HKW.out.trans HKF.out);have HKP:=Hd (HKX.out.trans (HKS.out.trans HKF.out));have HBK2:=Hd (HBS.out.kept HKF.out);have HA2:=Hd (HA.out.kept HKF.out);have HD2:=Hd (HD.out.kept HKF.out);clear HNF HBS HA HD HF HKF HL6;go_wp2_with fail;have b2:wr.cell? ⟨B,2,none⟩=some (.slice aA s.author.length cA):=HBK2.out.cell 2 _ rfl;have b3:wr.cell? ⟨B,3,none⟩=some (.slice aD s.editor.length cD):=HBK2.out.cell 3 _ rfl;have z4:=HBK2.out.lt;clear t4 zB;have HC:Hid (∀ w',Kept wr w'->w'.cell? ⟨B,2,none⟩=some (.slice aA s.author.length cA)/\w'.cell? ⟨B,3,none⟩=some (.slice aD s.editor.length cD)/\Kept wr w'):=fun w' h=>⟨(h.cell (p:=⟨B,2,none⟩) z4).trans b2,(h.cell (p:=⟨B,3,none⟩) z4).trans b3,h⟩;have k0:Kept wr (wr.alloc (.cells #[] 77)).drew:=(zaA wr _).trans (zaB _ 1);have k00:Kept wr wr.drew:=zaB wr 1;have HO0:=Hd (World.ownsRow_made (size:=4) (e:=77) wr #[] 0 (Nat.le_refl _) (by unfold maxLen;omega) (by simp)).drew;have hsum:s.author.length+s.editor.length<=80:=(by omega)
       go_region_held3 (fun w'=>w'.cell? ⟨B,2,none⟩=some (.slice aA s.author.length cA)/\w'.cell? ⟨B,3,none⟩=some (.slice aD s.editor.length cD)/\Kept wr w')
        ((refine HC.out _ ?_;with_reducible assumption))
        (first
         | (refine ze1 _ rfl (.tmp 135) (.tmp 137) rfl wr.heap.size v1 s.author (by simp [Act.eval,Act.put]) HO1.out _ s.editor (by simp [Act.eval,Act.put]) (HD2.out.kept k1) (by omega) k1.size ?_;intro v2 w2 hown2 hgrow2;have HO2:=Hd hown2;have k2:Kept wr w2:=k1.trans' (zaI HO1.out hgrow2 k1.size);clear hown2 hgrow2)
         | (refine ze1 _ rfl (.tmp 132) (.tmp 134) rfl wr.heap.size _ [] (by simp [Act.eval,Act.put]) HO0.out _ s.author (by simp [Act.eval,Act.put]) (HA2.out.kept k0) (by simp;omega) k0.size ?_;intro v1 w1 hown1 hgrow1;have HO1:Hid (w1.ownsRow wr.heap.size 77 4 v1 s.author.length (zb0 s.author)):=hown1;have k1:Kept wr w1:=k0.trans' (zaI HO0.out hgrow1 k0.size);clear hown1 hgrow1))
       all_goals
        have HV2:=Hd (Perss.ownY HO2.out);obtain ⟨a2,c2,rfl,hc2⟩:=zjP HV2.out;have hln:(s.author ++ s.editor).length<=80:=(by rw[List.length_append];omega);have HKZ:=Hd (HKP.out.trans k2);have HKY2:=Hd (HKQ.out.trans k2);have HFT:Hid ((∀ q∈s.author ++ s.editor,zeE q<=200)->FitL s):=by
         show _->_;intro hp;exact ⟨by omega,by omega,by omega,by omega,HFA.out,hp⟩
        clear k0 k00 k1 k2 HO0 HO1 HO2 b2 b3 z4 HC hsum HKP HKQ HA2 HD2 HBK2;obtain ⟨ps,HPS⟩:∃ ps,Hid (s.author ++ s.editor=ps):=⟨_,rfl⟩;rw[HPS.out] at HV2 HL7 hln hc2 HFT ⊢;go_wp2_with fail;go_loopw [10] (fun i wz=>∃ m:Nat,m<=ps.length/\i=.int .i64 m/\Hid (∀ q∈ps.take m,zeE q<=200)/\Hid (Kept w2 wz)) (fun i _=>ps.length - (intOf i).toNat)
        case atStart=>exact ⟨0,Nat.zero_le _,rfl,(fun q h=>by simp at h),Kept.refl _⟩
        case round =>
         obtain ⟨m,hm,rfl,HNP,HKG⟩:=hrel;by_cases hlt3:m<ps.length
         ·obtain ⟨q,hx⟩:∃ x,ps[m]? = some x:=⟨_,List.getElem?_eq_getElem hlt3⟩;obtain ⟨q1l,q2l,q3l,q4l⟩:=HL7.out q (List.mem_of_getElem? hx);obtain ⟨a',c',hv',hc',h3⟩:=HV2.out.kept HKG.out;obtain ⟨rfl,hdead,rfl⟩:=Value.slice.inj hv';clear hdead hc';obtain ⟨g,o,rfl,hg',hcc⟩:=h3 (by omega);obtain ⟨d0,d1,d2,d3⟩:=hcc m q hx;have HST3:=Hd (fun hp=>ziW (P:=fun q=>zeE q<=200) hx HNP.out hp);have HSZ:Hid (zeE q=q.1.length+q.2.1.length+q.2.2.1.length+q.2.2.2.length):=rfl;obtain ⟨p1,p2,p3,p4⟩:=q;simp only at d0 d1 d2 d3 q1l q2l q3l q4l HSZ;clear hcc h3 hv' hx;have hk0:(0:Int)<=(m:Int):=(by omega);have hk1:(m:Int)<(ps.length:Int):=(by omega);have hk2:((m:Int)).toNat=m:=(by omega);obtain ⟨s1,HS1⟩:∃ s:Int,Hid ((p1.length:Int)+(p2.length:Int)=s):=⟨_,rfl⟩;obtain ⟨s2,HS2⟩:∃ s:Int,Hid (s1+(p3.length:Int)=s):=⟨_,rfl⟩;obtain ⟨s3,HS3⟩:∃ s:Int,Hid (s2+(p4.length:Int)=s):=⟨_,rfl⟩;have e1:IntKind.i64.wrap ((p1.length:Int)+(p2.length:Int))=s1:=(by rw[zcL _ (by omega) (by omega)];exact HS1.out);have e2:IntKind.i64.wrap (s1+(p3.length:Int))=s2:=(by have:=HS1.out;rw[zcL _ (by omega) (by omega)];exact HS2.out);have e3:IntKind.i64.wrap (s2+(p4.length:Int))=s3:=(by have:=HS1.out;have:=HS2.out;rw[zcL _ (by omega) (by omega)];exact HS3.out);by_cases hbig:200<s3
          ·have hd:decide ((200:Int)<s3)=true:=decide_eq_true hbig;go_wp2_with fail
           go_quiet (fail)
           go_wp2_with fail;exact HNO.out _ (HKZ.out.trans (HKG.out.trans (zaB _ _)))
          ·have hd:decide ((200:Int)<s3)=false:=decide_eq_false hbig;have HS5:=Hd (HST3.out (by have h1:=HS1.out;have h2:=HS2.out;have h3:=HS3.out;have h4:=HSZ.out;show zeE _<=200;omega));go_wp2_with fail
           go_quiet (fail)
           go_wp2_with fail;go_roundw
           case rel=>exact ⟨m+1,by omega,by go_num,HS5.out,HKG.out.trans (zaB _ _)⟩
           case measure=>simp [intOf];omega
         ·have HPA2:Hid (∀ q∈ps,zeE q<=200):=(by have h:=HNP.out;rw[List.take_of_length_le (by omega)] at h;exact h);have HNX:=Hd (HST.out (HFT.out HPA2.out));have HKN:=Hd (HKY2.out.trans HKG.out);clear HNP HKG HFT HPA2;go_wp2_with fail;go_roundw
          case rel=>exact ⟨k+1,by omega,by go_num,HNX.out,HKN.out⟩
          case measure=>simp [intOf];omega
    ·have HLA:Hid (∀ s∈l,FitL s):=(by have h:=HN.out;rw[List.take_of_length_le (by omega)] at h;exact h);go_wp2_with fail;exact HYES.out _ (by omega) HLA.out HFY.out (HKY.out.trans HKR.out)
theorem Tryz.sizeIn:(Tryz.prog.info? 71).map (fun x=>x.size)=some 10:=by kernel_rfl
theorem Tryz.infoIn:(Tryz.prog.info? 71).map (fun i=>(i.zero,i.size,i.bytes))=some (some (.agg #[.int .i64 0,.string ⟨#[]⟩,.string ⟨#[]⟩,.string ⟨#[]⟩,.string ⟨#[]⟩,.slice none 0 0,.slice none 0 0,.slice none 0 0,.slice none 0 0,.slice none 0 0]),10,192):=by kernel_rfl
def zoG:List Value:=[.int .i64 0,.string ⟨#[]⟩,.string ⟨#[]⟩,.string ⟨#[]⟩,.string ⟨#[]⟩,.slice none 0 0,.slice none 0 0,.slice none 0 0,.slice none 0 0,.slice none 0 0]
theorem zEl (n:Nat) (S:Nat->Prop) (w:World):InlK n S w zoG (.mk 0 [] [] [] [] [] [] [] [] []) :=
 ⟨_,_,_,_,_,rfl,⟨Strs.none_ w,InB.nil _ _⟩,⟨Prs.none_ w,InB.nil _ _⟩,⟨Strs.none_ w,InB.nil _ _⟩,RowR.none_ _ _ _ _,Lns.none_ _ _ _⟩
theorem zkH (a:Act) (d:Nat) (v:Value) (s:Nat) (h:d<a.tmps.size):(a.put (some d) v).tmps[s]? = if s=d then some v else a.tmps[s]?:=by
 show (a.tmps.setIfInBounds d v)[s]? = _;by_cases q:s=d
 ·subst q;rw[if_pos rfl,Array.getElem?_setIfInBounds_self_of_lt h]
 ·rw[if_neg q,Array.getElem?_setIfInBounds_ne (fun e=>q e.symm)]
theorem ziX (a:Act) (d:Nat) (v:Value):(a.put (some d) v).tmps.size=a.tmps.size:=by
 show (a.tmps.setIfInBounds d v).size=_;rw[Array.size_setIfInBounds]
theorem zAr {a b:Act} (h1:a.defers=b.defers) (h2:∀ s:Nat,a.tmps[s]? = b.tmps[s]?):a=b:=by
 obtain ⟨t,d⟩:=a;obtain ⟨t',d'⟩:=b;obtain rfl:t=t':=Array.ext_getElem? h2;obtain rfl:d=d':=h1;rfl
theorem zE5 {D:Nat->Option Nat} {V:Nat->Value} {L:Array Bool} {a0 a:Act} (S:Slots 8 D V L a0 a) (hD:∀ i,D i=if i<6 then some (27+i) else none) (hon:∀ i,i<8->On L i) (hz:33<=a0.tmps.size):a=(((((a0.put (some 27) (V 0)).put (some 28) (V 1)).put (some 29) (V 2)).put (some 30) (V 3)).put (some 31) (V 4)).put (some 32) (V 5):=by
 have hdf:∀ (b:Act) (d:Nat) (u:Value),(b.put (some d) u).defers=b.defers:=fun _ _ _=>rfl;refine zAr (by rw[hdf,hdf,hdf,hdf,hdf,hdf];exact S.defers) (fun s=>?_);have v (i:Nat) (h:i<6):=S.val i (27+i) (by omega) (by rw[hD,if_pos h]) (hon i (by omega));rw[zkH _ _ _ _ (by simp only[ziX];omega)];by_cases q5:s=32
 ·subst q5;rw[if_pos rfl];exact v 5 (by omega)
 rw[if_neg q5,zkH _ _ _ _ (by simp only[ziX];omega)];by_cases q4:s=31
 ·subst q4;rw[if_pos rfl];exact v 4 (by omega)
 rw[if_neg q4,zkH _ _ _ _ (by simp only[ziX];omega)];by_cases q3:s=30
 ·subst q3;rw[if_pos rfl];exact v 3 (by omega)
 rw[if_neg q3,zkH _ _ _ _ (by simp only[ziX];omega)];by_cases q2:s=29
 ·subst q2;rw[if_pos rfl];exact v 2 (by omega)
 rw[if_neg q2,zkH _ _ _ _ (by simp only[ziX];omega)];by_cases q1:s=28
 ·subst q1;rw[if_pos rfl];exact v 1 (by omega)
 rw[if_neg q1,zkH _ _ _ _ (by omega)];by_cases q0:s=27
 ·subst q0;rw[if_pos rfl];exact v 0 (by omega)
 rw[if_neg q0];refine S.rest s (fun i hi h=>?_);rw[hD] at h;by_cases q:i<6
 ·rw[if_pos q] at h;have:=Option.some.inj h;omega
 ·rw[if_neg q] at h;cases h
def puD (i:Nat):Option Nat:=if i<6 then some (27+i) else none
def puV (v:Value) (cells:List Value) (m Z g cap:Nat):Nat->Value
 | 0=>v
 | 1=>.agg cells.toArray
 | 2=>.int .i64 m
 | 3=>.slice (some ⟨Z,0,none⟩) 1 1
 | 4=>.slice (some ⟨g,0,none⟩) (m+1) cap
 | _=>.pointer (some ⟨g,m * 10,none⟩)
theorem zE6 (v:Value) (cells:List Value) (m Z g cap g' cap':Nat) (j:Nat) (h:j<4):puV v cells m Z g cap j=puV v cells m Z g' cap' j:=by
 match j,h with
 | 0,_|1,_|2,_|3,_=>rfl
open Classical in
theorem ifc {α:Type} {p q:Prop} (h:p↔q) (a b:α):(if p then a else b)=if q then a else b:=by
 by_cases r:p
 ·rw[if_pos r,if_pos (h.1 r)]
 ·rw[if_neg r,if_neg (fun s=>r (h.2 s))]
open Classical in
structure PuJ (A:Nat->Prop) (N O I Z base:Nat) (v:Value) (xs:List Inl) (cells:List Value) (x:Inl) (w6:World) (a0:Act) (L:Array Bool) (a:Act) (w:World) (g cap:Nat):Prop where
 size:L.size=8
 slots:Slots 8 puD (puV v cells xs.length Z g cap) L a0 a
 c4:On L 4->∀ j,j<4->On L j
 c5:On L 5->On L 4
 c6:On L 6->On L 4
 c7:On L 7->On L 4
 lo:¬ On L 4->Kept w6 w/\(¬ On L 3->w.heap.size=Z)/\(On L 3->Blk w Z 71 zoG.toArray)
 hi:On L 4->OutG (InlK N) 10 A base 71 w (.slice (some ⟨g,0,none⟩) (xs.length+1) cap) (xs ++ [if On L 6 then x else .mk 0 [] [] [] [] [] [] [] [] []])/\Blk w O 57 #[if On L 7 then .slice (some ⟨g,0,none⟩) (xs.length+1) cap else v]/\Blk w I 71 cells.toArray/\InlK N (fun g'=>A g'/\g≠g') w cells x/\Only (fun i=>i=O\/base<=i) w6 w/\g≠I
def PuI (A:Nat->Prop) (N O I Z base:Nat) (v:Value) (xs:List Inl) (cells:List Value) (x:Inl) (w6:World) (a0:Act) (L:Array Bool) (a:Act) (w:World):Prop:=∃ g cap,PuJ A N O I Z base v xs cells x w6 a0 L a w g cap
theorem zmM (i:Nat):∀ j d,j<8->puD i=some d->puD j=some d->j=i:=by
 intro j d _ h1 h2;unfold puD at h1 h2
 split at h1 <;> split at h2 <;> simp_all
 omega
theorem zrU (n i:Nat) (hz:33<=n):∀ d,puD i=some d->d<n:=by
 intro d h1;unfold puD at h1
 split at h1 <;> simp at h1
 omega
theorem zk7 {A:Nat->Prop} {N O I Z base:Nat} {v:Value} {xs:List Inl} {cells:List Value} {x:Inl} {w6:World} {a0:Act} {L:Array Bool} {a:Act} {w:World} {g cap:Nat} (h:PuJ A N O I Z base v xs cells x w6 a0 L a w g cap) (hz:33<=a0.tmps.size) (i:Nat) (hi:i<8) (h3:i≠3) (h4:i≠4) (h6:i≠6) (h7:i≠7) (h5:i=5->On L 4) :
  PuI A N O I Z base v xs cells x w6 a0 (L.setIfInBounds i true) (a.put (puD i) (puV v cells xs.length Z g cap i)) w:=by
 refine ⟨g,cap,?_,h.slots.put i hi (by rw[h.size];exact hi) (zmM i) (zrU _ i hz) _ (fun _=>rfl) (fun _ _ _=>rfl),?_,?_,?_,?_,?_,?_⟩
 ·rw[Array.size_setIfInBounds];exact h.size
 ·intro q j hj;exact zbB (h.c4 ((ze8 h4).1 q) j hj)
 ·intro q;rcases zf3 q with q|q
  ·exact zbB (h5 q.symm)
  ·exact zbB (h.c5 q)
 ·intro q;exact zbB (h.c6 ((ze8 h6).1 q))
 ·intro q;exact zbB (h.c7 ((ze8 h7).1 q))
 ·intro q;obtain ⟨k1,k2,k3⟩:=h.lo (fun r=>q (zbB r));exact ⟨k1,fun r=>k2 (fun r'=>r (zbB r')),fun r=>k3 ((ze8 h3).1 r)⟩
 ·intro q;have:=h.hi ((ze8 h4).1 q);rw[ifc (ze8 h6),ifc (ze8 h7)];exact this
theorem ztN {A:Nat->Prop} {N O I base:Nat} {v:Value} {xs:List Inl} {cells:List Value} {x:Inl} {w:World} {a:Act} {Q:Exit->Act->World->Prop} {id:Nat} {o0 o1 o2 o3 o4 o5 o6 o7:Oper}
  (p0:o0.op=.load 57 (.tmp 1)) (p1:o1.op=.load 71 (.tmp 5)) (p2:o2.op=.call { callee:=.builtin .len,args:=#[.tmp 27],argTypes:=#[57] })
  (p3:o3.op=.buildSlice 57 1 #[(0,.const (.agg zoG.toArray))]) (p4:o4.op=.call { callee:=.builtin .append,args:=#[.tmp 27,.tmp 30],argTypes:=#[57,57] })
  (p5:o5.op=.indexAddr 57 (.tmp 31) (.tmp 29)) (p6:o6.op=.store 71 (.tmp 32) (.tmp 28)) (p7:o7.op=.store 57 (.tmp 1) (.tmp 31))
  (q0:o0.guard=none) (q1:o1.guard=none) (q2:o2.guard=none) (q3:o3.guard=none) (q4:o4.guard=none) (q5:o5.guard=none) (q6:o6.guard=none) (q7:o7.guard=none)
  (d0:o0.dst=some 27) (d1:o1.dst=some 28) (d2:o2.dst=some 29) (d3:o3.dst=some 30) (d4:o4.dst=some 31) (d5:o5.dst=some 32) (d6:o6.dst=none) (d7:o7.dst=none)
  (hm:Tryz.prog.follows .mixedOrders=true) (hac:acB #[o0,o1,o2,o3,o4,o5,o6,o7]=true)
  (e2:⟨0,.data⟩∈o2.after) (e40:⟨0,.data⟩∈o4.after) (e43:⟨3,.data⟩∈o4.after) (e41:⟨1,.phase⟩∈o4.after) (e42:⟨2,.phase⟩∈o4.after) (e54:⟨4,.data⟩∈o5.after) (e52:⟨2,.data⟩∈o5.after) (e65:⟨5,.data⟩∈o6.after) (e61:⟨1,.data⟩∈o6.after) (e64:⟨4,.chain⟩∈o6.after) (e74:⟨4,.data⟩∈o7.after)
  (hz:33<=a.tmps.size) (hx1:a.eval (.tmp 1)=.pointer (some ⟨O,0,none⟩)) (hx5:a.eval (.tmp 5)=.pointer (some ⟨I,0,none⟩))
  (hcl:cells.length=10) (hO:Blk w O 57 #[v]) (hI:Blk w I 71 cells.toArray) (hv:OutG (InlK N) 10 A base 71 w v xs)
  (hAO:∀ g,A g->g≠O) (hvO:v.ownBlock≠some O) (hvI:v.ownBlock≠some I) (hOI:O≠I) (hOb:O<base) (hbI:base<=I) (hy:InlK N (fun g=>A g/\v.ownBlock≠some g) w cells x) (hlen:xs.length+1<=1000001)
  (h:∀ u0 u1 u2 u3 u4 u5 g cap w',OutG (InlK N) 10 A base 71 w' (.slice (some ⟨g,0,none⟩) (xs.length+1) cap) (xs ++ [x])->Blk w' O 57 #[.slice (some ⟨g,0,none⟩) (xs.length+1) cap]->Only (fun i=>i=O\/base<=i) w w' ->
   Q .normal ((((((a.put (some 27) u0).put (some 28) u1).put (some 29) u2).put (some 30) u3).put (some 31) u4).put (some 32) u5) w') :
  (Code.region id #[o0,o1,o2,o3,o4,o5,o6,o7] true).wp Tryz.prog Q a w:=by
 obtain ⟨i0,hi,hz0,hz1,hz2⟩:=info_parts Tryz.infoIn;have hbase:base<=w.heap.size:=(by have:=hI.lt;omega);refine zfS (PuI A N O I w.heap.size base v xs cells x w a) hm (zBW hac) ?_ ?_ ?_
 ·have hno:∀ i,¬ On (Array.replicate 8 false) i:=fun i=>zgF 8 i;exact ⟨0,0,rfl,Slots.start 8 puD _ 8 a,fun q=>absurd q (hno _),fun q=>absurd q (hno _),fun q=>absurd q (hno _),fun q=>absurd q (hno _),fun _=>⟨zaB w 1,fun _=>rfl,fun q=>absurd q (hno _)⟩,fun q=>absurd q (hno _)⟩
 ·intro L a1 w1 hI hall;obtain ⟨g,cap,J⟩:=hI;have hon:∀ i,i<8->On L i:=fun i hi=>by
   have:=hall i hi;have hlt:i<L.size:=(by have:=J.size;omega);unfold On;rw[Array.getD_eq_getD_getElem?,Array.getElem?_eq_getElem hlt] at this ⊢;exact this
  obtain ⟨r1,r2,_,_,r5,_⟩:=J.hi (hon 4 (by omega));rw[if_pos (hon 6 (by omega))] at r1;rw[if_pos (hon 7 (by omega))] at r2;rw[zE5 J.slots (fun i=>rfl) hon hz];exact h _ _ _ _ _ _ g cap w1 r1 r2 r5
 ·intro L a1 w1 i hII hi8 hn hed;obtain ⟨g,cap,J⟩:=hII;have S:=J.slots;have n0:=zuR hn;have sx1:=(S.ext 1 (by intro i _;unfold puD;split <;> simp;omega)).trans hx1;have sx5:=(S.ext 5 (by intro i _;unfold puD;split <;> simp;omega)).trans hx5;replace hi8:i<8:=hi8;obtain rfl|rfl|rfl|rfl|rfl|rfl|rfl|rfl:i=0\/i=1\/i=2\/i=3\/i=4\/i=5\/i=6\/i=7:=(by omega)
  · -- load of the list
   have n4:¬ On L 4:=fun q=>n0 (J.c4 q 0 (by omega));obtain ⟨hk,-,-⟩:=J.lo n4;have t:=(hO.kept hk).cell 0 _ rfl;refine zaR (o:=o0) rfl q0 (v:=v) (w':=w1) ?_ ?_
   ·simp only[execOp,p0,sx1];simp [go_sem,t,Tryz.underlying57]
   ·rw[d0];exact zk7 J hz 0 (by omega) (by omega) (by omega) (by omega) (by omega) (by omega)
  · -- load of the element
   have n4:¬ On L 4:=fun q=>n0 (J.c4 q 1 (by omega));obtain ⟨hk,-,-⟩:=J.lo n4;refine zmF (o:=o1) rfl ?_;refine zaT q1 71 (.tmp 5) p1 I cells.toArray sx5 (hI.kept hk) _ Tryz.underlying71 rfl ?_ ?_
   ·rw[List.size_toArray,hcl];exact Tryz.sizeIn
   ·rw[d1];exact zk7 J hz 1 (by omega) (by omega) (by omega) (by omega) (by omega) (by omega)
  · -- its length
   have z:a1.eval (.tmp 27)=v:=S.eval 0 27 (by omega) rfl (hed _ rfl _ e2 rfl);obtain ⟨av,cv,hvv,_,_⟩:=hv.form;refine zaR (o:=o2) rfl q2 (v:=.int .i64 xs.length) (w':=w1) ?_ ?_
   ·simp only[execOp,p2,resolve,invoke,builtin,Sem.run_bind,Sem.run_pure,Result.andThen_ok,List.map_toArray,List.map_cons,List.map_nil,z,hvv];simp [go_sem,Tryz.underlying57]
   ·rw[d2];exact zk7 J hz 2 (by omega) (by omega) (by omega) (by omega) (by omega) (by omega)
  · -- a row of one
   have n4:¬ On L 4:=fun q=>n0 (J.c4 q 3 (by omega));obtain ⟨hk,hsz,-⟩:=J.lo n4;replace hsz:=hsz n0;refine zmF (o:=o3) rfl ?_;refine wpList_buildSlice q3 57 71 1 _ p3 zoG.toArray i0 _ Tryz.underlying57 hi hz0 (by rw[hz1];decide) (by rw[hz1];decide) (by rw[hz1];kernel_rfl) ?_;rw[d3,hsz];refine ⟨g,cap,by rw[Array.size_setIfInBounds];exact J.size,S.put 3 (by omega) (by rw[J.size];omega) (zmM 3) (zrU _ 3 hz) _ (fun _=>rfl) (fun _ _ _=>rfl),fun q=>absurd ((ze8 (by omega)).1 q) n4,fun q=>absurd (J.c5 ((ze8 (by omega)).1 q)) n4,fun q=>absurd (J.c6 ((ze8 (by omega)).1 q)) n4,fun q=>absurd (J.c7 ((ze8 (by omega)).1 q)) n4,fun _=>⟨hk.trans (zaA _ _),fun q=>absurd (zeS (by rw[J.size];omega)) q,fun _=>?_⟩,fun q=>absurd ((ze8 (by omega)).1 q) n4⟩;have:=Blk.new w1 71 zoG.toArray;rw[hsz] at this;exact this
  · -- the append
   have f0:=hed _ rfl _ e40 rfl;have f1:=hed _ rfl _ e41 rfl;have f2:=hed _ rfl _ e42 rfl;have f3:=hed _ rfl _ e43 rfl;obtain ⟨hk,-,hzb⟩:=J.lo n0;have hzb:=hzb f3;have z0:a1.eval (.tmp 27)=v:=S.eval 0 27 (by omega) rfl f0;have z3:a1.eval (.tmp 30)=.slice (some ⟨w.heap.size,0,none⟩) 1 1:=S.eval 3 30 (by omega) rfl f3;have hv1:=hv.kept (zgH N) hk;refine zmF (o:=o4) rfl ?_;refine zaS (zgH N) q4 (.tmp 27) (.tmp 30) 57 p4 i0 _ 192 Tryz.underlying57 hi hz0 hz1 hz2 rfl (by omega) z0 hv1 w.heap.size zoG (.mk 0 [] [] [] [] [] [] [] [] []) z3 (fun j u hu=>hzb.cell j u (by rw[List.getElem?_toArray];exact hu)) rfl (zEl _ _ _) (by unfold maxLen;omega) (by omega) (Nat.le_trans hbase hk.size) _ rfl ?_;intro g2 cap2 w2 hout hgrow hat hlt;have hon:=Only.grown hgrow;have hg2:g2≠I/\∀ g',v.ownBlock≠some g'->g'<w.heap.size->g2≠g':=by
    refine ⟨?_,fun g' hne hl=>?_⟩
    ·rcases hat with q|q
     ·intro e;exact hvI (by rw[q,e])
     ·have:=hI.lt;have:=hk.size;omega
    ·rcases hat with q|q
     ·intro e;exact hne (by rw[q,e])
     ·have:=hk.size;omega
   have n6:¬ On L 6:=fun q=>n0 (J.c6 q);have n7:¬ On L 7:=fun q=>n0 (J.c7 q);show PuI _ _ _ _ _ _ _ _ _ _ _ _ _ _ _;rw[d4];refine ⟨g2,cap2,by rw[Array.size_setIfInBounds];exact J.size,S.put 4 (by omega) (by rw[J.size];omega) (zmM 4) (zrU _ 4 hz) _ (fun _=>rfl) (fun j hj ho=>?_),fun _ j hj=>zbB ?_,fun q=>absurd (J.c5 ((ze8 (by omega)).1 q)) n0,fun q=>absurd (J.c6 ((ze8 (by omega)).1 q)) n0,fun q=>absurd (J.c7 ((ze8 (by omega)).1 q)) n0,fun q=>absurd (zeS (by rw[J.size];omega)) q,fun _=>?_⟩
   ·refine zE6 _ _ _ _ _ _ _ _ j ?_;rcases Nat.lt_or_ge j 4 with q|q
    ·exact q
    ·exfalso;obtain rfl|rfl|rfl|rfl:j=4\/j=5\/j=6\/j=7:=(by omega)
     ·exact n0 ho
     ·exact n0 (J.c5 ho)
     ·exact n6 ho
     ·exact n7 ho
   ·obtain rfl|rfl|rfl|rfl:j=0\/j=1\/j=2\/j=3:=(by omega)
    ·exact f0
    ·exact f1
    ·exact f2
    ·exact f3
   ·rw[if_neg (fun q=>n6 ((ze8 (by omega)).1 q)),if_neg (fun q=>n7 ((ze8 (by omega)).1 q))];have hO1:=hO.kept hk;have hI1:=hI.kept hk;refine ⟨hout,?_,?_,?_,?_,hg2.1⟩
    ·show w2.heap[O]? = _;rw[hon.block O hO1.lt (fun q=>hvO q.symm)];exact hO1
    ·show w2.heap[I]? = _;rw[hon.block I hI1.lt (fun q=>hvI q.symm)];exact hI1
    ·have hy1:=(zgH N).sam hy (Sam.kept hk) (fun _ _ q=>q);have hy2:InlK N (fun g=>g<w.heap.size/\A g/\v.ownBlock≠some g) w cells x:=(zgH N).sam hy (fun _ _ _=>rfl) (fun g hg q=>⟨hg,q⟩);exact (zgH N).sam ((zgH N).sam hy2 (Sam.kept hk) (fun _ _ q=>q)) (Sam.only hon (fun g _ q r=>q.2.2 r.symm)) (fun g' _ q=>⟨q.2.1,hg2.2 g' q.2.2 q.1⟩)
    ·refine (Only.of_kept hk).trans (hon.mono (fun i _ q=>.inr (hv.blk i q.symm).1))
  · -- the new element's place
   have f4:=hed _ rfl _ e54 rfl;have z4:=S.eval 4 31 (by omega) rfl f4;have z2:=S.eval 2 29 (by omega) rfl (hed _ rfl _ e52 rfl);obtain ⟨hout,-⟩:=J.hi f4;obtain ⟨_,_,hvv,hcap,hmax⟩:=hout.form;refine zaR (o:=o5) rfl q5 (v:=.pointer (some ⟨g,xs.length * 10,none⟩)) (w':=w1) ?_ ?_
   ·simp only[execOp,p5,z4,z2,puV];simp [go_sem,Tryz.underlying57,Tryz.sizeIn];intro hh;omega
   ·rw[d5];exact zk7 J hz 5 (by omega) (by omega) (by omega) (by omega) (by omega) (fun _=>f4)
  · -- the element is stored
   have f5:=hed _ rfl _ e65 rfl;have f4:=J.c5 f5;have z5:=S.eval 5 32 (by omega) rfl f5;have z1:=S.eval 1 28 (by omega) rfl (hed _ rfl _ e61 rfl);obtain ⟨hout,hO1,hI1,hy1,hon,hgI⟩:=J.hi f4;rw[if_neg n0] at hout;have hgb:=hout.blk g rfl;refine zmF (o:=o6) rfl ?_;refine zd0 (zgH N) q6 (.tmp 32) (.tmp 28) p6 hout xs.length (by simp) cells x z5 z1 hcl Tryz.sizeIn hy1 ?_;intro w2 hout2 hon2;rw[List.set_append_right _ _ (Nat.le_refl _),Nat.sub_self,List.set_cons_zero] at hout2;show PuI _ _ _ _ _ _ _ _ _ _ _ _ _ _ _;rw[d6];refine ⟨g,cap,by rw[Array.size_setIfInBounds];exact J.size,S.put 6 (by omega) (by rw[J.size];omega) (zmM 6) (zrU _ 6 hz) _ (fun q=>by cases q) (fun _ _ _=>rfl),fun _ j hj=>zbB (J.c4 f4 j hj),fun _=>zbB f4,fun _=>zbB f4,fun _=>zbB f4,fun q=>absurd (zbB f4) q,fun _=>?_⟩;rw[if_pos (zeS (by rw[J.size];omega)),ifc (ze8 (by omega))];refine ⟨hout2,?_,?_,(zgH N).sam hy1 (Sam.only hon2 (fun g' _ q r=>q.2 r.symm)) (fun _ _ q=>q),hon.trans (hon2.mono (fun i _ q=>.inr (by omega))),hgI⟩
   ·show w2.heap[O]? = _;rw[hon2.block O hO1.lt (by omega)];exact hO1
   ·show w2.heap[I]? = _;rw[hon2.block I hI1.lt (fun q=>hgI q.symm)];exact hI1
  · -- the list is stored
   have f4:=hed _ rfl _ e74 rfl;have z4:=S.eval 4 31 (by omega) rfl f4;obtain ⟨hout,hO1,hI1,hy1,hon,hgI⟩:=J.hi f4;rw[if_neg n0] at hO1;have hgb:=hout.blk g rfl;have t:=hO1.cell 0 _ rfl;have fr:=hO1.free 0;have on2:=Only.setCell (w:=w1) O 0 (.slice (some ⟨g,0,none⟩) (xs.length+1) cap);refine zcQ (o:=o7) rfl q7 (w':=w1.setCell ⟨O,0,none⟩ (.slice (some ⟨g,0,none⟩) (xs.length+1) cap)) ?_ ?_
   ·simp only[execOp,p7,sx1,z4,puV];simp [go_sem,t,fr,Tryz.underlying57]
   ·rw[d7];refine ⟨g,cap,by rw[Array.size_setIfInBounds];exact J.size,S.put 7 (by omega) (by rw[J.size];omega) (zmM 7) (zrU _ 7 hz) _ (fun q=>by cases q) (fun _ _ _=>rfl),fun _ j hj=>zbB (J.c4 f4 j hj),fun _=>zbB f4,fun _=>zbB f4,fun _=>zbB f4,fun q=>absurd (zbB f4) q,fun _=>?_⟩;rw[ifc (ze8 (by omega)),if_pos (zeS (by rw[J.size];omega))];refine ⟨hout.only (zgH N) on2 (fun g' _ q _ r=>hAO g' q r) (fun g' q r=>by have e:g=g':=(by simpa [Value.ownBlock] using q);omega),hO1.set 0 _,?_,(zgH N).sam hy1 (Sam.only on2 (fun g' _ q r=>hAO g' q.1 r)) (fun _ _ q=>q),hon.trans (on2.mono (fun i _ q=>.inl q)),hgI⟩;show (w1.setCell _ _).heap[I]? = _;rw[on2.block I hI1.lt (fun q=>hOI q.symm)];exact hI1
end Go.Proofs.YtmcoomlkbgiboaaGreatDoor
