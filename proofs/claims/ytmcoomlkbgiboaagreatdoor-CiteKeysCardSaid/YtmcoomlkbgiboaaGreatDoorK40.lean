/- publisherref04.Plain: the plain text of inlines. Condition: its length. -/
import Derived.Test.YtmcoomlkbgiboaaGreatDoorK11
import Derived.Test.YtmcoomlkbgiboaaGreatDoorK08
import Derived.Test.YtmcoomlkbgiboaaGreatDoorK34
import Derived.Test.YtmcoomlkbgiboaaGreatDoorK33
import Derived.Test.YtmcoomlkbgiboaaGreatDoorK09
import Derived.Test.YtmcoomlkbgiboaaGreatDoorK26
import Derived.Test.YtmcoomlkbgiboaaGreatDoorK35
import Derived.Test.YtmcoomlkbgiboaaGreatDoorK12
import Derived.Test.YtmcoomlkbgiboaaGreatDoorK31
import Derived.Test.YtmcoomlkbgiboaaGreatDoorK39
import Derived.BigQuiet

set_option linter.all false
namespace Go.Proofs.YtmcoomlkbgiboaaGreatDoor
open Go.RowKit

/-- The lengths of the kids, some layers deep. -/
def lenK:Nat→List Inl→Prop
 | 0,_=>True
 | n+1,xs=>∀ x∈xs,x.kids.length≤1000000∧lenK n x.kids
set_option maxRecDepth 100000 in
set_option maxHeartbeats 12800000 in
theorem rplain4_any {S:Nat→Prop}:∀ (n:Nat) (xs:List Inl) (v:Value) (w:World),Lns S n w v xs→xs.length≤1000000→lenK n xs→(plainL xs).length≤1000000→Calls Tryz.prog 30 #[v] w fun e w'=>e=.returned (.string (bs (plainL xs)))∧Kept w w':=by
 intro n
 induction n with
 | zero =>
  intro xs v w hv hl hok hp
  obtain rfl:=hv.no
  obtain ⟨a,c,rfl,hc⟩:=hv.form
  show Calls Tryz.prog 30 #[.slice a 0 c] w fun e w'=>e=.returned (.string (bs []))∧Kept w w'
  clear hv hok hp
  go_enter Tryz.func30,Tryz.ntmps30
  go_wp2_with fail
  simp only [mk_bs]
  go_loopw [3,4] (fun o i wr=>o=.string (bs [])∧i=.int .i64 0∧w=wr) (fun _ _ _=>1)
  case atStart=>exact ⟨rfl,rfl,rfl⟩
  case round =>
   obtain ⟨rfl,rfl,rfl⟩:=hrel
   go_wp2_with fail
   (try go_ret)
   exact ⟨rfl,Kept.refl _⟩
 | succ n ih =>
  intro xs v w hv hl hok hp
  have HV:=Lib.hid hv
  have HOK:=Lib.hid hok
  have HIH:=Lib.hid ih
  have HPL:=Lib.hid (fun k=>plainL_le xs k)
  have HFN:Hid (∀ t,t=plainL (xs.take xs.length)→t=plainL xs):=fun t h=>by rwa [List.take_length] at h
  obtain ⟨a,c,rfl,hc⟩:=hv.form
  obtain ⟨R,HR⟩:∃ R,Hid (plainL xs=R):=⟨_,rfl⟩
  rw [HR.out] at hp HPL HFN ⊢
  clear hv hok ih HR
  go_enter Tryz.func30,Tryz.ntmps30
  go_wp2_with fail
  simp only [mk_bs]
  go_loopw [3,4] (fun o i wr=>∃ (k:Nat) (t:Bs),k≤xs.length∧i=.int .i64 k∧o=.string (bs t)∧Hid (t=plainL (xs.take k))∧Hid (Kept w wr)) (fun _ i _=>xs.length - (intOf i).toNat)
  case atStart=>exact ⟨0,[],Nat.zero_le _,rfl,rfl,rfl,Kept.refl _⟩
  case round =>
   obtain ⟨k,t,hk,rfl,rfl,HT,HKR⟩:=hrel
   have htl:t.length≤1000000:=by have h:=HPL.out k; rw [← HT.out] at h; omega
   by_cases hlt:k<xs.length
   ·obtain ⟨x,hx⟩:∃ x,xs[k]? = some x:=⟨_,List.getElem?_eq_getElem hlt⟩
    have hfit:=HOK.out x (List.mem_of_getElem? hx)
    have HTK:=Lib.hid (plainL_take hx)
    rw [← HT.out] at HTK
    obtain ⟨g,o,vC,vP,vA,vT,vK,rfl,hgg,hgS,-,-,⟨d0,d1,d2,d3,d4,d5,d6,d7,d8,d9⟩,-,-,-,-,-,hK⟩:=Lns.at_ (HV.out.kept HKR.out) k x hx
    obtain ⟨kind,text,dest,title,id,cls,prs,args,cits,kids⟩:=x
    simp only [Inl.kind,Inl.text,Inl.dest,Inl.title,Inl.id,Inl.cls,Inl.prs,Inl.args,Inl.cits,Inl.kids] at d0 d1 d2 d3 d4 hK hfit
    obtain ⟨f9,f10⟩:=hfit
    have HKK:=Lib.hid hK
    obtain ⟨aK,cK,rfl,lK⟩:=hK.form
    have hpk:plain1 (Inl.mk kind text dest title id cls prs args cits kids)=if kind=1∨kind=4∨kind=5 then text else if kind=2∨kind=3 then [32] else if 6≤kind∧kind≤11 then plainL kids else if kind=16 then dest else []:=plain1_eq _
    rw [hpk] at HTK
    have hnx:=HPL.out (k+1)
    rw [HTK.out,List.length_append] at hnx
    clear hK hx hpk
    by_cases hk1:kind=1
    ·subst hk1
     rw [if_pos (.inl rfl)] at HTK hnx
     obtain ⟨ad,-⟩:=add_bsG (P:=Tryz.prog) t text (t ++ text) 1000000 1000000 rfl htl (by omega) (by omega)
     have adx:=ad wr
     clear ad
     clear hnx HKK HT
     go_wp2_with fail
     go_roundw
     case rel=>exact ⟨k+1,t ++ text,by omega,by go_num,rfl,HTK.out.symm,HKR.out⟩
     case measure=>simp [intOf]; omega
    ·by_cases hk4:kind=4
     ·subst hk4
      rw [if_pos (.inr (.inl rfl))] at HTK hnx
      obtain ⟨ad,-⟩:=add_bsG (P:=Tryz.prog) t text (t ++ text) 1000000 1000000 rfl htl (by omega) (by omega)
      have adx:=ad wr
      clear ad
      clear hnx HKK HT
      go_wp2_with fail
      go_roundw
      case rel=>exact ⟨k+1,t ++ text,by omega,by go_num,rfl,HTK.out.symm,HKR.out⟩
      case measure=>simp [intOf]; omega
     ·by_cases hk5:kind=5
      ·subst hk5
       rw [if_pos (.inr (.inr rfl))] at HTK hnx
       obtain ⟨ad,-⟩:=add_bsG (P:=Tryz.prog) t text (t ++ text) 1000000 1000000 rfl htl (by omega) (by omega)
       have adx:=ad wr
       clear ad
       clear hnx HKK HT
       go_wp2_with fail
       go_roundw
       case rel=>exact ⟨k+1,t ++ text,by omega,by go_num,rfl,HTK.out.symm,HKR.out⟩
       case measure=>simp [intOf]; omega
      ·by_cases hk2:kind=2
       ·subst hk2
        rw [if_neg (by omega),if_pos (by omega)] at HTK hnx
        obtain ⟨ad,-⟩:=add_bsG (P:=Tryz.prog) t [32] (t ++ [32]) 1000000 1000000 rfl htl (by simp) (by omega)
        have adx:=ad wr
        clear ad
        clear hnx HKK HT
        go_wp2_with fail
        go_roundw
        case rel=>exact ⟨k+1,t ++ [32],by omega,by go_num,rfl,HTK.out.symm,HKR.out⟩
        case measure=>simp [intOf]; omega
       ·by_cases hk3:kind=3
        ·subst hk3
         rw [if_neg (by omega),if_pos (by omega)] at HTK hnx
         obtain ⟨ad,-⟩:=add_bsG (P:=Tryz.prog) t [32] (t ++ [32]) 1000000 1000000 rfl htl (by simp) (by omega)
         have adx:=ad wr
         clear ad
         clear hnx HKK HT
         go_wp2_with fail
         go_roundw
         case rel=>exact ⟨k+1,t ++ [32],by omega,by go_num,rfl,HTK.out.symm,HKR.out⟩
         case measure=>simp [intOf]; omega
        ·by_cases hk6:kind=6
         ·subst hk6
          rw [if_neg (by omega),if_neg (by omega),if_pos (by omega)] at HTK hnx
          have HC:=Lib.hid (HIH.out kids (.slice aK kids.length cK) wr HKK.out f9 f10 (by omega))
          obtain ⟨kt,HKT⟩:∃ kt,Hid (plainL kids=kt):=⟨_,rfl⟩
          rw [HKT.out] at HTK hnx HC
          obtain ⟨ad,-⟩:=add_bsG (P:=Tryz.prog) t kt (t ++ kt) 1000000 1000000 rfl htl (by omega) (by omega)
          have HAD:=Lib.hid ad
          clear ad hnx HKK HT
          go_wp2_with fail
          refine HC.out.mono ?_
          rintro e w3 ⟨rfl,hk3⟩
          have adx:=HAD.out w3
          have HK3:=Lib.hid (HKR.out.trans hk3)
          clear hk3 HC d0 d1 d2 d3 d4 d5 d6 d7 d8 d9
          go_wp2_with fail
          go_roundw
          case rel=>exact ⟨k+1,t ++ kt,by omega,by go_num,rfl,HTK.out.symm,HK3.out⟩
          case measure=>simp [intOf]; omega
         ·by_cases hk7:kind=7
          ·subst hk7
           rw [if_neg (by omega),if_neg (by omega),if_pos (by omega)] at HTK hnx
           have HC:=Lib.hid (HIH.out kids (.slice aK kids.length cK) wr HKK.out f9 f10 (by omega))
           obtain ⟨kt,HKT⟩:∃ kt,Hid (plainL kids=kt):=⟨_,rfl⟩
           rw [HKT.out] at HTK hnx HC
           obtain ⟨ad,-⟩:=add_bsG (P:=Tryz.prog) t kt (t ++ kt) 1000000 1000000 rfl htl (by omega) (by omega)
           have HAD:=Lib.hid ad
           clear ad hnx HKK HT
           go_wp2_with fail
           refine HC.out.mono ?_
           rintro e w3 ⟨rfl,hk3⟩
           have adx:=HAD.out w3
           have HK3:=Lib.hid (HKR.out.trans hk3)
           clear hk3 HC d0 d1 d2 d3 d4 d5 d6 d7 d8 d9
           go_wp2_with fail
           go_roundw
           case rel=>exact ⟨k+1,t ++ kt,by omega,by go_num,rfl,HTK.out.symm,HK3.out⟩
           case measure=>simp [intOf]; omega
          ·by_cases hk8:kind=8
           ·subst hk8
            rw [if_neg (by omega),if_neg (by omega),if_pos (by omega)] at HTK hnx
            have HC:=Lib.hid (HIH.out kids (.slice aK kids.length cK) wr HKK.out f9 f10 (by omega))
            obtain ⟨kt,HKT⟩:∃ kt,Hid (plainL kids=kt):=⟨_,rfl⟩
            rw [HKT.out] at HTK hnx HC
            obtain ⟨ad,-⟩:=add_bsG (P:=Tryz.prog) t kt (t ++ kt) 1000000 1000000 rfl htl (by omega) (by omega)
            have HAD:=Lib.hid ad
            clear ad hnx HKK HT
            go_wp2_with fail
            refine HC.out.mono ?_
            rintro e w3 ⟨rfl,hk3⟩
            have adx:=HAD.out w3
            have HK3:=Lib.hid (HKR.out.trans hk3)
            clear hk3 HC d0 d1 d2 d3 d4 d5 d6 d7 d8 d9
            go_wp2_with fail
            go_roundw
            case rel=>exact ⟨k+1,t ++ kt,by omega,by go_num,rfl,HTK.out.symm,HK3.out⟩
            case measure=>simp [intOf]; omega
           ·by_cases hk9:kind=9
            ·subst hk9
             rw [if_neg (by omega),if_neg (by omega),if_pos (by omega)] at HTK hnx
             have HC:=Lib.hid (HIH.out kids (.slice aK kids.length cK) wr HKK.out f9 f10 (by omega))
             obtain ⟨kt,HKT⟩:∃ kt,Hid (plainL kids=kt):=⟨_,rfl⟩
             rw [HKT.out] at HTK hnx HC
             obtain ⟨ad,-⟩:=add_bsG (P:=Tryz.prog) t kt (t ++ kt) 1000000 1000000 rfl htl (by omega) (by omega)
             have HAD:=Lib.hid ad
             clear ad hnx HKK HT
             go_wp2_with fail
             refine HC.out.mono ?_
             rintro e w3 ⟨rfl,hk3⟩
             have adx:=HAD.out w3
             have HK3:=Lib.hid (HKR.out.trans hk3)
             clear hk3 HC d0 d1 d2 d3 d4 d5 d6 d7 d8 d9
             go_wp2_with fail
             go_roundw
             case rel=>exact ⟨k+1,t ++ kt,by omega,by go_num,rfl,HTK.out.symm,HK3.out⟩
             case measure=>simp [intOf]; omega
            ·by_cases hk10:kind=10
             ·subst hk10
              rw [if_neg (by omega),if_neg (by omega),if_pos (by omega)] at HTK hnx
              have HC:=Lib.hid (HIH.out kids (.slice aK kids.length cK) wr HKK.out f9 f10 (by omega))
              obtain ⟨kt,HKT⟩:∃ kt,Hid (plainL kids=kt):=⟨_,rfl⟩
              rw [HKT.out] at HTK hnx HC
              obtain ⟨ad,-⟩:=add_bsG (P:=Tryz.prog) t kt (t ++ kt) 1000000 1000000 rfl htl (by omega) (by omega)
              have HAD:=Lib.hid ad
              clear ad hnx HKK HT
              go_wp2_with fail
              refine HC.out.mono ?_
              rintro e w3 ⟨rfl,hk3⟩
              have adx:=HAD.out w3
              have HK3:=Lib.hid (HKR.out.trans hk3)
              clear hk3 HC d0 d1 d2 d3 d4 d5 d6 d7 d8 d9
              go_wp2_with fail
              go_roundw
              case rel=>exact ⟨k+1,t ++ kt,by omega,by go_num,rfl,HTK.out.symm,HK3.out⟩
              case measure=>simp [intOf]; omega
             ·by_cases hk11:kind=11
              ·subst hk11
               rw [if_neg (by omega),if_neg (by omega),if_pos (by omega)] at HTK hnx
               have HC:=Lib.hid (HIH.out kids (.slice aK kids.length cK) wr HKK.out f9 f10 (by omega))
               obtain ⟨kt,HKT⟩:∃ kt,Hid (plainL kids=kt):=⟨_,rfl⟩
               rw [HKT.out] at HTK hnx HC
               obtain ⟨ad,-⟩:=add_bsG (P:=Tryz.prog) t kt (t ++ kt) 1000000 1000000 rfl htl (by omega) (by omega)
               have HAD:=Lib.hid ad
               clear ad hnx HKK HT
               go_wp2_with fail
               refine HC.out.mono ?_
               rintro e w3 ⟨rfl,hk3⟩
               have adx:=HAD.out w3
               have HK3:=Lib.hid (HKR.out.trans hk3)
               clear hk3 HC d0 d1 d2 d3 d4 d5 d6 d7 d8 d9
               go_wp2_with fail
               go_roundw
               case rel=>exact ⟨k+1,t ++ kt,by omega,by go_num,rfl,HTK.out.symm,HK3.out⟩
               case measure=>simp [intOf]; omega
              ·by_cases hk16:kind=16
               ·subst hk16
                rw [if_neg (by omega),if_neg (by omega),if_neg (by omega),if_pos rfl] at HTK hnx
                obtain ⟨ad,-⟩:=add_bsG (P:=Tryz.prog) t dest (t ++ dest) 1000000 1000000 rfl htl (by omega) (by omega)
                have adx:=ad wr
                clear ad
                clear hnx HKK HT
                go_wp2_with fail
                go_roundw
                case rel=>exact ⟨k+1,t ++ dest,by omega,by go_num,rfl,HTK.out.symm,HKR.out⟩
                case measure=>simp [intOf]; omega
               ·have hb1:(kind == 1)=false:=by rw [beq_eq_false_iff_ne]; exact hk1
                have hb4:(kind == 4)=false:=by rw [beq_eq_false_iff_ne]; exact hk4
                have hb5:(kind == 5)=false:=by rw [beq_eq_false_iff_ne]; exact hk5
                have hb2:(kind == 2)=false:=by rw [beq_eq_false_iff_ne]; exact hk2
                have hb3:(kind == 3)=false:=by rw [beq_eq_false_iff_ne]; exact hk3
                have hb6:(kind == 6)=false:=by rw [beq_eq_false_iff_ne]; exact hk6
                have hb7:(kind == 7)=false:=by rw [beq_eq_false_iff_ne]; exact hk7
                have hb8:(kind == 8)=false:=by rw [beq_eq_false_iff_ne]; exact hk8
                have hb9:(kind == 9)=false:=by rw [beq_eq_false_iff_ne]; exact hk9
                have hb10:(kind == 10)=false:=by rw [beq_eq_false_iff_ne]; exact hk10
                have hb11:(kind == 11)=false:=by rw [beq_eq_false_iff_ne]; exact hk11
                have hb16:(kind == 16)=false:=by rw [beq_eq_false_iff_ne]; exact hk16
                rw [if_neg (by omega),if_neg (by omega),if_neg (by omega),if_neg (by omega),List.append_nil] at HTK
                clear hnx HKK HT
                go_wp2_with fail
                go_roundw
                case rel=>exact ⟨k+1,t,by omega,by go_num,rfl,HTK.out.symm,HKR.out⟩
                case measure=>simp [intOf]; omega
   ·obtain rfl:k=xs.length:=by omega
    obtain rfl:=HFN.out t HT.out
    clear HT HFN
    go_wp2_with fail
    (try go_ret)
    exact ⟨rfl,HKR.out⟩
end Go.Proofs.YtmcoomlkbgiboaaGreatDoor

/- The page's examples of styles, in plain Lean. No condition. -/
set_option linter.all false
namespace Go.Proofs.YtmcoomlkbgiboaaGreatDoor
open Go.RowKit

def ascB (l:Bs):Bool:=l.all fun b=>decide (32≤(b.toNat:Int)) && decide ((b.toNat:Int)<127)
theorem lnB_asc {l:Bs} (h:ascB l=true):lnB l=true:=by
 have:lineB l=true:=line_asc l (fun b hb=>by
  unfold ascB at h
  rw [List.all_eq_true] at h
  have:=h b hb
  simpa using this)
 exact this
theorem splE_asc {t:Bs} (h:ascB t=true):splE t=if (splT t).isSome=true then 0 else 5:=by
 unfold splE; rw [lnB_asc h]; rfl
theorem splE_yes {t:Bs} (h:ascB t=true) (hs:(splT t).isSome=true):splE t=0:=by rw [splE_asc h,hs]; rfl
theorem splL_yes {t:Bs} (h:splE t=0):splL t=(splT t).getD []:=by unfold splL; rw [if_pos h]
theorem num_ent:entE numYE=0:=by
 unfold entE numYE
 rw [entA_cons,if_neg (by decide +kernel),if_neg (by decide +kernel),splE_yes (by decide +kernel) (by decide +kernel),if_neg (by decide),entA_cons,if_neg (by decide +kernel),if_neg (by decide +kernel),splE_yes (by decide +kernel) (by decide +kernel),if_neg (by decide),entA_end,if_pos (by decide +kernel)]
theorem date_ent:entE dateYE=0:=by
 unfold entE dateYE
 rw [entA_cons,if_neg (by decide +kernel),if_neg (by decide +kernel),splE_yes (by decide +kernel) (by decide +kernel),if_neg (by decide),entA_cons,if_neg (by decide +kernel),if_neg (by decide +kernel),splE_yes (by decide +kernel) (by decide +kernel),if_neg (by decide),entA_end,if_pos (by decide +kernel)]
theorem num_cit:citE numY=0:=by
 have h1:splE numY.cite=0:=splE_yes (by decide +kernel) (by decide +kernel)
 have h2:splE numY.bare=0:=splE_yes (by decide +kernel) (by decide +kernel)
 unfold citE
 rw [h1,if_neg (by decide),splL_yes h1,h2,if_neg (by decide +kernel)]
theorem date_cit:citE dateY=0:=by
 have h1:splE dateY.cite=0:=splE_yes (by decide +kernel) (by decide +kernel)
 have h2:splE dateY.bare=0:=splE_yes (by decide +kernel) (by decide +kernel)
 unfold citE
 rw [h1,if_neg (by decide),splL_yes h1,h2,if_neg (by decide +kernel)]
theorem date_srt:srtE dateY.sort=0:=by decide +kernel
theorem num_sty:styE numY=0:=by
 unfold styE
 have h1:lnB numY.between=true:=lnB_asc (by decide +kernel)
 have h2:lnB numY.begin_=true:=lnB_asc (by decide +kernel)
 have h3:lnB numY.end_=true:=lnB_asc (by decide +kernel)
 have h4:entE numY.entries=0:=num_ent
 rw [if_neg (by decide),if_neg (by decide +kernel),if_neg (by decide),num_cit,if_neg (by decide),h1,h2,h3,if_neg (by decide),if_neg (by decide),h4]
theorem date_sty:styE dateY=0:=by
 unfold styE
 have h1:lnB dateY.between=true:=lnB_asc (by decide +kernel)
 have h2:lnB dateY.begin_=true:=lnB_asc (by decide +kernel)
 have h3:lnB dateY.end_=true:=lnB_asc (by decide +kernel)
 have h4:entE dateY.entries=0:=date_ent
 rw [if_neg (by decide),if_neg (by decide +kernel),date_srt,if_neg (by decide),date_cit,if_neg (by decide),h1,h2,h3,if_neg (by decide),if_neg (by decide),h4]
theorem blt_num:bltY [110,117,109,101,114,105,99]=some numY:=by
 unfold bltY
 rw [if_neg (by decide),if_pos (by rfl)]
theorem blt_date:bltY [97,117,116,104,111,114,45,100,97,116,101]=some dateY:=by
 unfold bltY
 rw [if_pos (by rfl)]
end Go.Proofs.YtmcoomlkbgiboaaGreatDoor

/- Plain: the examples of law32. No condition. -/
set_option linter.all false
namespace Go.Proofs.YtmcoomlkbgiboaaGreatDoor
open Go.RowKit

def kBook:Bs:=[98,111,111,107]
def srcW (key fam yr:Bs):SrcT:=⟨key,kBook,[(fam,[],[],[])],[],[([116,105,116,108,101],[84]),([121,101,97,114],yr)]⟩
def kEn:Bs:=[101,110]
def srA:SrcT:=srcW [97] [78,103] [50,48,48,49]
def srB:SrcT:=srcW [98] [78,103] [50,48,48,49]
theorem spl_date:splL dateY.cite=(splT dateY.cite).getD []:=splL_yes (splE_yes (by decide +kernel) (by decide +kernel))
theorem spl_num:splL numY.cite=(splT numY.cite).getD []:=splL_yes (splE_yes (by decide +kernel) (by decide +kernel))
theorem awk_suf:sufN ([srA,srB].map (citX dateY kEn))=[1,2]:=by
 unfold citX citS fillS
 rw [spl_date]
 decide +kernel
theorem awk_ct:ctB numY kEn srA 1 [44,32,112,46,32,51]=[91,49,44,32,112,46,32,51,93]:=by
 unfold ctB fillS
 rw [spl_num]
 decide +kernel
theorem awk_fl:fillS (filT srA numY kEn [] 1) numY.cite=[49]:=by
 unfold fillS
 rw [spl_num]
 decide +kernel
theorem awk_ck:checkE [srA,srB]=0:=by decide +kernel
theorem awk_find:findS [srA,srB] [97]=some srA:=by decide +kernel
theorem awk_fitA:FitL srA:=by unfold FitL; decide +kernel
theorem awk_fitB:FitL srB:=by unfold FitL; decide +kernel
end Go.Proofs.YtmcoomlkbgiboaaGreatDoor

/- awake of law32. Conditions: the listed variables. -/
set_option linter.all false
namespace Go.Proofs.YtmcoomlkbgiboaaGreatDoor
open Go.RowKit

def SrcWP (key fam yr:Bs) (w:World) (e:Ending) (w':World):Prop:=∃ g1 g2:Nat,e=.returned (srcV key kBook (.slice (some ⟨g1,0,none⟩) 1 1) (.slice none 0 0) (.slice (some ⟨g2,0,none⟩) 2 2))∧Perss w' (.slice (some ⟨g1,0,none⟩) 1 1) [(fam,[],[],[])]∧Prs w' (.slice (some ⟨g2,0,none⟩) 2 2) [([116,105,116,108,101],[84]),([121,101,97,114],yr)]∧Kept w w'
theorem pers_one (w:World) (fam:Bs):Perss (w.alloc (.cells #[.string (bs fam),.string (bs []),.string (bs []),.string (bs [])] 77)) (.slice (some ⟨w.heap.size,0,none⟩) 1 1) [(fam,[],[],[])]:=by
 have hb:=Blk.new w 77 #[.string (bs fam),.string (bs []),.string (bs []),.string (bs [])]
 refine ⟨_,_,rfl,Nat.le_refl _,fun _=>⟨_,0,rfl,hb.lt,fun j q hq=>?_⟩⟩
 cases j with
 | zero=>cases hq; exact ⟨hb.cell 0 _ rfl,hb.cell 1 _ rfl,hb.cell 2 _ rfl,hb.cell 3 _ rfl⟩
 | succ j=>simp at hq
set_option maxRecDepth 100000 in
set_option maxHeartbeats 3200000 in
theorem source32_any (key fam yr:Bs) (w:World):Calls Tryz.prog 29 #[.string (bs key),.string (bs fam),.string (bs yr)] w (SrcWP key fam yr w):=by
 have hk:∀ (w0:World) (n:Nat),w0.heap.size=n→Kept w w0→SrcWP key fam yr w (.returned (srcV key kBook (.slice (some ⟨n,0,none⟩) 1 1) (.slice none 0 0) (.slice (some ⟨n+1,0,none⟩) 2 2))) ((w0.alloc (.cells #[.string (bs fam),.string (bs []),.string (bs []),.string (bs [])] 77)).alloc (.cells #[.string (bs [116,105,116,108,101]),.string (bs [84]),.string (bs [121,101,97,114]),.string (bs yr)] 62)):=by
  intro w0 n hn hk
  have b1:=(pers_one w0 fam).kept (kept_alloc _ (.cells #[.string (bs [116,105,116,108,101]),.string (bs [84]),.string (bs [121,101,97,114]),.string (bs yr)] 62))
  have b2:=prs_two (w0.alloc (.cells #[.string (bs fam),.string (bs []),.string (bs []),.string (bs [])] 77)) ([116,105,116,108,101],[84]) ([121,101,97,114],yr)
  rw [hn] at b1
  rw [World.size_alloc,hn] at b2
  exact ⟨n,n+1,rfl,b1,b2,(hk.trans (kept_alloc _ _)).trans (kept_alloc _ _)⟩
 have HK:=Lib.hid hk
 clear hk
 have e0:(w.alloc (.cells #[.string (bs key),.string (bs kBook),.slice (some ⟨w.heap.size+1,0,none⟩) 1 1,.slice none 0 0,.slice (some ⟨w.heap.size+1+1,0,none⟩) 2 2] 50)).heap.size=w.heap.size+1:=by simp
 have HE0:=Lib.hid e0
 clear e0
 go_enter Tryz.func29,Tryz.ntmps29
 go_wp2_with fail
 refine bodyPost_ret (v:=srcV key kBook (.slice (some ⟨w.heap.size+1,0,none⟩) 1 1) (.slice none 0 0) (.slice (some ⟨w.heap.size+1+1,0,none⟩) 2 2)) ?_ rfl (HK.out _ (w.heap.size+1) HE0.out (kept_alloc w _))
 simp [results,Tryz.results29,go_sem,srcV,kBook]
theorem small_date:SmallY dateY:=by
 refine ⟨by decide,by decide,by decide,by decide,by decide,by decide,by decide,by decide,fun p hp=>?_⟩
 have h:p∈dateYE:=hp
 simp only [dateYE,List.mem_cons,List.not_mem_nil,or_false] at h
 rcases h with rfl | rfl <;> exact ⟨by decide,by decide⟩
theorem small_num:SmallY numY:=by
 refine ⟨by decide,by decide,by decide,by decide,by decide,by decide,by decide,by decide,fun p hp=>?_⟩
 have h:p∈numYE:=hp
 simp only [numYE,List.mem_cons,List.not_mem_nil,or_false] at h
 rcases h with rfl | rfl <;> exact ⟨by decide,by decide⟩
/-- The document of the example. -/
def awI:Inl:=.mk 13 [] [] [] [] [] [] [] [⟨[97],[],[44,32,112,46,32,51],false⟩] []
def awB:Blo:=.mk 1 0 [] [] [] [] [] [] [] [awI] []
theorem awk_keys:keysD [awB]=[[97]]:=by decide +kernel
theorem awk_ok:okBL [awB]:=by
 refine ⟨⟨?_,⟨⟨?_,trivial⟩,trivial⟩,trivial⟩,trivial⟩
 all_goals decide
theorem awk_inls:inlsL [awB]=[awI]:=rfl
theorem awk_b1:(inlsL [awB]).length≤1000000:=by rw [awk_inls]; simp
theorem awk_b2:∀ x∈inlsL [awB],x.cits.length≤1000000:=fun x hx=>by
 rw [awk_inls] at hx
 rcases List.mem_singleton.1 hx with rfl
 show ([⟨[97],[],[44,32,112,46,32,51],false⟩]:List Cit).length≤_
 simp
theorem awk_b3:((inlsL [awB]).flatMap citKeys).length≤1000000:=by rw [awk_inls]; decide +kernel
theorem one_rowZ {α:Type} {S:Nat→Prop} {k:Nat} {R:List Value→α→Prop} {w:World} {g:Nat} {t:TypeId} {cs:List Value} {x:α} (h:Blk w g t cs.toArray) (hk:cs.length=k) (hS:S g) (hR:R cs x):RowR S k R w (.slice (some ⟨g,0,none⟩) 1 1) [x]:=by
 refine ⟨_,1,rfl,Nat.le_refl _,fun _=>⟨g,0,rfl,h.lt,hS,fun j y hy=>?_⟩⟩
 cases j with
 | zero =>
  cases hy
  refine ⟨cs,hk,fun i u hu=>?_,hR⟩
  have e:=h.cell i u (by rw [List.getElem?_toArray]; exact hu)
  rwa [show (0:Nat)+0 * k+i=i from by omega]
 | succ j=>simp at hy
theorem awB_new {w:World} {C I B:Nat} (hc:Blk w C 68 #[.string (bs [97]),.string (bs []),.string (bs [44,32,112,46,32,51]),.bool false])
  (hi:Blk w I 71 #[.int .i64 13,.string (bs []),.string (bs []),.string (bs []),.string (bs []),.slice none 0 0,.slice none 0 0,.slice none 0 0,.slice (some ⟨C,0,none⟩) 1 1,.slice none 0 0])
  (hb:Blk w B 59 #[.int .i64 1,.int .i64 0,.string (bs []),.string (bs []),.string (bs []),.string (bs []),.string (bs []),.slice none 0 0,.slice none 0 0,.slice (some ⟨I,0,none⟩) 1 1,.slice none 0 0]) :
  Bls (fun g=>g<w.heap.size) 2 1 w (.slice (some ⟨B,0,none⟩) 1 1) [awB]:=by
 have h1:Cits (fun g=>g<w.heap.size) w (.slice (some ⟨C,0,none⟩) 1 1) [⟨[97],[],[44,32,112,46,32,51],false⟩]:=one_rowZ (cs:=[.string (bs [97]),.string (bs []),.string (bs [44,32,112,46,32,51]),.bool false]) hc rfl hc.lt rfl
 have h2:Lns (fun g=>g<w.heap.size) 2 w (.slice (some ⟨I,0,none⟩) 1 1) [awI]:=one_rowZ (k:=10) (cs:=[.int .i64 13,.string (bs []),.string (bs []),.string (bs []),.string (bs []),.slice none 0 0,.slice none 0 0,.slice none 0 0,.slice (some ⟨C,0,none⟩) 1 1,.slice none 0 0]) hi rfl hi.lt ⟨_,_,_,_,_,rfl,⟨Strs.none_ w,InB.nil _ _⟩,⟨Prs.none_ w,InB.nil _ _⟩,⟨Strs.none_ w,InB.nil _ _⟩,h1,Lns.none_ _ _ _⟩
 exact one_rowZ (k:=11) (cs:=[.int .i64 1,.int .i64 0,.string (bs []),.string (bs []),.string (bs []),.string (bs []),.string (bs []),.slice none 0 0,.slice none 0 0,.slice (some ⟨I,0,none⟩) 1 1,.slice none 0 0]) hb rfl hb.lt ⟨_,_,_,_,rfl,⟨Strs.none_ w,InB.nil _ _⟩,⟨Prs.none_ w,InB.nil _ _⟩,h2,Bls.none_ _ _ _ _⟩
theorem srcs_two {w:World} {g:Nat} {t:TypeId} {k1 f1 y1 k2 f2 y2:Bs} {vA1 vF1 vA2 vF2:Value} (h:Blk w g t #[.string (bs k1),.string (bs kBook),vA1,.slice none 0 0,vF1,.string (bs k2),.string (bs kBook),vA2,.slice none 0 0,vF2])
  (a1:Perss w vA1 [(f1,[],[],[])]) (p1:Prs w vF1 [([116,105,116,108,101],[84]),([121,101,97,114],y1)]) (a2:Perss w vA2 [(f2,[],[],[])]) (p2:Prs w vF2 [([116,105,116,108,101],[84]),([121,101,97,114],y2)]) :
  Srcs w (.slice (some ⟨g,0,none⟩) 2 2) [srcW k1 f1 y1,srcW k2 f2 y2]:=by
 refine ⟨_,2,rfl,Nat.le_refl _,fun _=>⟨g,0,rfl,h.lt,fun j s hs=>?_⟩⟩
 match j,hs with
 | 0,hs=>cases hs; exact ⟨vA1,_,vF1,h.cell 0 _ rfl,h.cell 1 _ rfl,h.cell 2 _ rfl,h.cell 3 _ rfl,h.cell 4 _ rfl,a1,Perss.none_ w,p1⟩
 | 1,hs=>cases hs; exact ⟨vA2,_,vF2,h.cell 5 _ rfl,h.cell 6 _ rfl,h.cell 7 _ rfl,h.cell 8 _ rfl,h.cell 9 _ rfl,a2,Perss.none_ w,p2⟩
 | n+2,hs=>cases hs
theorem doc_newA (w:World) (n:Nat) (hn:w.heap.size=n) :
  Kept w ((((w.alloc (.cells #[.string (bs [97]),.string (bs []),.string (bs [44,32,112,46,32,51]),.bool false] 68)).alloc (.cells #[.int .i64 13,.string (bs []),.string (bs []),.string (bs []),.string (bs []),.slice none 0 0,.slice none 0 0,.slice none 0 0,.slice (some ⟨n,0,none⟩) 1 1,.slice none 0 0] 71)).alloc (.cells #[.int .i64 1,.int .i64 0,.string (bs []),.string (bs []),.string (bs []),.string (bs []),.string (bs []),.slice none 0 0,.slice none 0 0,.slice (some ⟨n+1,0,none⟩) 1 1,.slice none 0 0] 59)).alloc (.cells #[.slice none 0 0,.slice (some ⟨n+1+1,0,none⟩) 1 1] 25)) ∧
  Blk ((((w.alloc (.cells #[.string (bs [97]),.string (bs []),.string (bs [44,32,112,46,32,51]),.bool false] 68)).alloc (.cells #[.int .i64 13,.string (bs []),.string (bs []),.string (bs []),.string (bs []),.slice none 0 0,.slice none 0 0,.slice none 0 0,.slice (some ⟨n,0,none⟩) 1 1,.slice none 0 0] 71)).alloc (.cells #[.int .i64 1,.int .i64 0,.string (bs []),.string (bs []),.string (bs []),.string (bs []),.string (bs []),.slice none 0 0,.slice none 0 0,.slice (some ⟨n+1,0,none⟩) 1 1,.slice none 0 0] 59)).alloc (.cells #[.slice none 0 0,.slice (some ⟨n+1+1,0,none⟩) 1 1] 25)) (n+1+1+1) 25 #[.slice none 0 0,.slice (some ⟨n+1+1,0,none⟩) 1 1] ∧
  Bls (fun g=>g<((((w.alloc (.cells #[.string (bs [97]),.string (bs []),.string (bs [44,32,112,46,32,51]),.bool false] 68)).alloc (.cells #[.int .i64 13,.string (bs []),.string (bs []),.string (bs []),.string (bs []),.slice none 0 0,.slice none 0 0,.slice none 0 0,.slice (some ⟨n,0,none⟩) 1 1,.slice none 0 0] 71)).alloc (.cells #[.int .i64 1,.int .i64 0,.string (bs []),.string (bs []),.string (bs []),.string (bs []),.string (bs []),.slice none 0 0,.slice none 0 0,.slice (some ⟨n+1,0,none⟩) 1 1,.slice none 0 0] 59)).alloc (.cells #[.slice none 0 0,.slice (some ⟨n+1+1,0,none⟩) 1 1] 25)).heap.size) 2 1 ((((w.alloc (.cells #[.string (bs [97]),.string (bs []),.string (bs [44,32,112,46,32,51]),.bool false] 68)).alloc (.cells #[.int .i64 13,.string (bs []),.string (bs []),.string (bs []),.string (bs []),.slice none 0 0,.slice none 0 0,.slice none 0 0,.slice (some ⟨n,0,none⟩) 1 1,.slice none 0 0] 71)).alloc (.cells #[.int .i64 1,.int .i64 0,.string (bs []),.string (bs []),.string (bs []),.string (bs []),.string (bs []),.slice none 0 0,.slice none 0 0,.slice (some ⟨n+1,0,none⟩) 1 1,.slice none 0 0] 59)).alloc (.cells #[.slice none 0 0,.slice (some ⟨n+1+1,0,none⟩) 1 1] 25)) (.slice (some ⟨n+1+1,0,none⟩) 1 1) [awB]:=by
 have b1:=Blk.new w 68 #[.string (bs [97]),.string (bs []),.string (bs [44,32,112,46,32,51]),.bool false]
 rw [hn] at b1
 obtain ⟨w1,hw1⟩:∃ x,w.alloc (.cells #[.string (bs [97]),.string (bs []),.string (bs [44,32,112,46,32,51]),.bool false] 68)=x:=⟨_,rfl⟩
 have k1:Kept w w1:=hw1 ▸ kept_alloc w _
 have n1:w1.heap.size=n+1:=by rw [← hw1,World.size_alloc,hn]
 rw [hw1] at b1 ⊢
 have b2:=Blk.new w1 71 #[.int .i64 13,.string (bs []),.string (bs []),.string (bs []),.string (bs []),.slice none 0 0,.slice none 0 0,.slice none 0 0,.slice (some ⟨n,0,none⟩) 1 1,.slice none 0 0]
 rw [n1] at b2
 obtain ⟨w2,hw2⟩:∃ x,w1.alloc (.cells #[.int .i64 13,.string (bs []),.string (bs []),.string (bs []),.string (bs []),.slice none 0 0,.slice none 0 0,.slice none 0 0,.slice (some ⟨n,0,none⟩) 1 1,.slice none 0 0] 71)=x:=⟨_,rfl⟩
 have k2:Kept w1 w2:=hw2 ▸ kept_alloc w1 _
 have n2:w2.heap.size=n+1+1:=by rw [← hw2,World.size_alloc,n1]
 rw [hw2] at b2 ⊢
 have b3:=Blk.new w2 59 #[.int .i64 1,.int .i64 0,.string (bs []),.string (bs []),.string (bs []),.string (bs []),.string (bs []),.slice none 0 0,.slice none 0 0,.slice (some ⟨n+1,0,none⟩) 1 1,.slice none 0 0]
 rw [n2] at b3
 obtain ⟨w3,hw3⟩:∃ x,w2.alloc (.cells #[.int .i64 1,.int .i64 0,.string (bs []),.string (bs []),.string (bs []),.string (bs []),.string (bs []),.slice none 0 0,.slice none 0 0,.slice (some ⟨n+1,0,none⟩) 1 1,.slice none 0 0] 59)=x:=⟨_,rfl⟩
 have k3:Kept w2 w3:=hw3 ▸ kept_alloc w2 _
 have n3:w3.heap.size=n+1+1+1:=by rw [← hw3,World.size_alloc,n2]
 rw [hw3] at b3 ⊢
 have b4:=Blk.new w3 25 #[.slice none 0 0,.slice (some ⟨n+1+1,0,none⟩) 1 1]
 rw [n3] at b4
 have k4:Kept w3 (w3.alloc (.cells #[.slice none 0 0,.slice (some ⟨n+1+1,0,none⟩) 1 1] 25)):=kept_alloc w3 _
 exact ⟨((k1.trans k2).trans k3).trans k4,b4,awB_new (((b1.kept k2).kept k3).kept k4) ((b2.kept k3).kept k4) (b3.kept k4)⟩
set_option maxRecDepth 100000 in
set_option maxHeartbeats 12800000 in
theorem awake32_any (w:World) (hen:EnvC w):Calls Tryz.prog 10 #[] w fun e w'=>e=.returned (.bool true)∧Kept w w':=by
 have HEN:=Lib.hid hen
 clear hen
 have HSR:=Lib.hid source32_any
 unfold SrcWP srcV at HSR
 have HFIN:Hid (∀ w',Kept w w'→(Ending.returned (.bool true)=Ending.returned (.bool true))∧Kept w w'):=fun w' h=>⟨rfl,h⟩
 have HB1:=Lib.hid (sbuiltin_any [97,117,116,104,111,114,45,100,97,116,101] w)
 rw [blt_date] at HB1
 unfold StyP at HB1
 simp only [Option.getD_some,Option.isSome_some] at HB1
 have HB2:=Lib.hid (fun w=>sbuiltin_any [110,117,109,101,114,105,99] w)
 simp only [blt_num] at HB2
 unfold StyP at HB2
 simp only [Option.getD_some,Option.isSome_some] at HB2
 obtain ⟨y1,HY1⟩:∃ y,Hid (dateY=y):=⟨_,rfl⟩
 obtain ⟨y2,HY2⟩:∃ y,Hid (numY=y):=⟨_,rfl⟩
 rw [HY1.out] at HB1
 simp only [HY2.out] at HB2
 unfold styV styCells at HB1 HB2
 have HSU:Hid (∀ v vE w',EnvC w'→Srcs w' v [srA,srB]→Prs w' vE y1.entries→Calls Tryz.prog 18 #[v,styV vE y1,.string (bs [101,110])] w' (SufPo (0,[[97],[98]]) w')):=fun v vE w' h1 h2 h3=>by
  rw [← HY1.out] at h3 ⊢
  have h:=cisuf_any v vE [srA,srB] dateY kEn w' h1 h2 (by simp) (fun s hs=>by
   simp only [List.mem_cons,List.not_mem_nil,or_false] at hs
   rcases hs with rfl | rfl
   ·exact awk_fitA
   ·exact awk_fitB) h3 small_date (by decide)
  have e:sufR dateY kEn [srA,srB]=(0,[[97],[98]]):=by
   unfold sufR
   rw [if_pos date_sty,if_neg (by decide),awk_suf]
   simp only [List.map_cons,List.map_nil,letL_one,letL_two]
  rw [e] at h
  exact h
 have HFI:Hid (∀ vL vE vB w',EnvC w'→Srcs w' vL [srA,srB]→Prs w' vE y2.entries→Bls (fun g=>g<w'.heap.size) 2 1 w' vB [awB]→Calls Tryz.prog 25 #[.agg #[.slice none 0 0,vB],vL,styV vE y2,.string (bs [101,110])] w' (FiOne [91,49,44,32,112,46,32,51,93] w')):=fun vL vE vB w' h1 h2 h3 h4=>by
  rw [← HY2.out] at h3 ⊢
  have h:=cifi_one 1 (.slice none 0 0) vB vL vE [] [srA,srB] srA numY kEn [97] [32,112,46,32,51] [] [] [] [] [] [] [] [] [] 0 [] [] [] [] [] [] w' h1 (Prs.none_ w') (by simp) h4 awk_ok awk_keys awk_b1 awk_b2 awk_b3 h2 (by simp) (fun s hs=>by
   simp only [List.mem_cons,List.not_mem_nil,or_false] at hs
   rcases hs with rfl | rfl
   ·exact awk_fitA
   ·exact awk_fitB) awk_ck awk_find h3 small_num (by decide) num_sty (by decide) (by simp) (by rw [awk_fl]; simp) (by rw [awk_ct]; decide) (by simp) (by simp)
  rw [awk_ct] at h
  exact h
 have HKY:Hid (∀ vB w',Bls (fun g=>g<w'.heap.size) 2 1 w' vB [awB]→Calls Tryz.prog 12 #[.agg #[.slice none 0 0,vB]] w' (CiKP [[97]] w')):=fun vB w' h=>by
  have h2:=cikeys_any 2 1 none 0 0 vB [awB] w' h (by simp) awk_ok awk_b1 awk_b2 awk_b3
  rw [awk_keys] at h2
  exact h2
 unfold SufPo at HSU
 unfold FiOne at HFI
 unfold CiKP at HKY
 unfold styV styCells at HSU HFI
 go_enter Tryz.func10,Tryz.ntmps10
 go_wp2_with fail
 refine HB1.out.mono ?_
 rintro e w1 ⟨vE1,rfl,hp1,hk1⟩
 obtain ⟨aE1,cE1,rfl,lE1⟩:=hp1.form
 have HK1:=Lib.hid hk1
 have HP1:=Lib.hid hp1
 clear hk1 hp1 HB1
 go_wp2_with fail
 refine (HB2.out _).mono ?_
 rintro e w2 ⟨vE2,rfl,hp2,hk2⟩
 obtain ⟨aE2,cE2,rfl,lE2⟩:=hp2.form
 have HY1B:=Lib.hid ((Blk.new w1 33 #[.string (bs y1.name),.bool y1.numeric,.string (bs y1.sort),.string (bs y1.cite),.string (bs y1.bare),.string (bs y1.between),.string (bs y1.begin_),.string (bs y1.end_),.int .i64 y1.most,.slice aE1 y1.entries.length cE1]).kept hk2)
 have HP1:=Lib.hid ((HP1.out.kept (kept_alloc w1 _)).kept hk2)
 have HP2:=Lib.hid hp2
 have HK2:=Lib.hid ((HK1.out.trans (kept_alloc w1 _)).trans hk2)
 generalize w1.heap.size=B1 at *
 clear HB2 HK1 hp2 hk2
 go_wp2_with fail
 refine (HSR.out [97] [78,103] [50,48,48,49] _).mono ?_
 rintro e w3 ⟨gA1,gF1,rfl,ha1,hf1,hk3⟩
 have HY2B:=Lib.hid ((Blk.new w2 33 #[.string (bs y2.name),.bool y2.numeric,.string (bs y2.sort),.string (bs y2.cite),.string (bs y2.bare),.string (bs y2.between),.string (bs y2.begin_),.string (bs y2.end_),.int .i64 y2.most,.slice aE2 y2.entries.length cE2]).kept hk3)
 have hk23:=(kept_alloc w2 _).trans hk3
 have HK3:=Lib.hid (HK2.out.trans hk23)
 have HP1:=Lib.hid (HP1.out.kept hk23)
 have HP2:=Lib.hid (HP2.out.kept hk23)
 have HY1B:=Lib.hid (HY1B.out.kept hk23)
 have HA1:=Lib.hid ha1
 have HF1:=Lib.hid hf1
 generalize w2.heap.size=B2 at *
 clear ha1 hf1 hk3 hk23 HK2
 go_wp2_with fail
 refine (HSR.out [98] [78,103] [50,48,48,49] _).mono ?_
 rintro e w4 ⟨gA2,gF2,rfl,ha2,hf2,hk4⟩
 have HK4:=Lib.hid (HK3.out.trans hk4)
 have HP1:=Lib.hid (HP1.out.kept hk4)
 have HP2:=Lib.hid (HP2.out.kept hk4)
 have HY1B:=Lib.hid (HY1B.out.kept hk4)
 have HY2B:=Lib.hid (HY2B.out.kept hk4)
 have HA1:=Lib.hid (HA1.out.kept hk4)
 have HF1:=Lib.hid (HF1.out.kept hk4)
 have HA2:=Lib.hid ha2
 have HF2:=Lib.hid hf2
 clear ha2 hf2 hk4 HK3 HSR
 have hka:=kept_alloc w4 (.cells #[.string (bs [97]),.string (bs kBook),.slice (some ⟨gA1,0,none⟩) 1 1,.slice none 0 0,.slice (some ⟨gF1,0,none⟩) 2 2,.string (bs [98]),.string (bs kBook),.slice (some ⟨gA2,0,none⟩) 1 1,.slice none 0 0,.slice (some ⟨gF2,0,none⟩) 2 2] 50)
 have hbl:=Blk.new w4 50 #[.string (bs [97]),.string (bs kBook),.slice (some ⟨gA1,0,none⟩) 1 1,.slice none 0 0,.slice (some ⟨gF1,0,none⟩) 2 2,.string (bs [98]),.string (bs kBook),.slice (some ⟨gA2,0,none⟩) 1 1,.slice none 0 0,.slice (some ⟨gF2,0,none⟩) 2 2]
 have HSS:=Lib.hid (srcs_two hbl (HA1.out.kept hka) (HF1.out.kept hka) (HA2.out.kept hka) (HF2.out.kept hka))
 have HY1C:=Lib.hid (HY1B.out.kept hka)
 have d0:=HY1C.out.cell 0 _ rfl
 have d1:=HY1C.out.cell 1 _ rfl
 have d2:=HY1C.out.cell 2 _ rfl
 have d3:=HY1C.out.cell 3 _ rfl
 have d4:=HY1C.out.cell 4 _ rfl
 have d5:=HY1C.out.cell 5 _ rfl
 have d6:=HY1C.out.cell 6 _ rfl
 have d7:=HY1C.out.cell 7 _ rfl
 have d8:=HY1C.out.cell 8 _ rfl
 have d9:=HY1C.out.cell 9 _ rfl
 have HKA:=Lib.hid hka
 clear hka hbl HA1 HF1 HA2 HF2
 go_wp2_with fail
 refine (HSU.out _ _ _ (HEN.out.kept (HK4.out.trans HKA.out)) HSS.out (HP1.out.kept HKA.out)).mono ?_
 rintro e w5 ⟨vS,rfl,hs5,hk5⟩
 obtain ⟨aS,cS,rfl,lS⟩:=hs5.form
 have hk45:=HKA.out.trans hk5
 have HK5:=Lib.hid (HK4.out.trans hk45)
 have HP2:=Lib.hid (HP2.out.kept hk45)
 have HY2B:=Lib.hid (HY2B.out.kept hk45)
 have HSS:=Lib.hid (HSS.out.kept hk5)
 have HST:=Lib.hid hs5
 generalize w4.heap.size=L at *
 clear HSU HP1 HY1B HY1C HKA HK4 hs5 hk5 hk45 d0 d1 d2 d3 d4 d5 d6 d7 d8 d9
 obtain ⟨hkd,hdb,hdl⟩:=doc_newA w5 _ rfl
 have HKD:=Lib.hid hkd
 have HDB:=Lib.hid hdb
 have HDL:=Lib.hid hdl
 have HY2C:=Lib.hid (HY2B.out.kept hkd)
 have d0:=HY2C.out.cell 0 _ rfl
 have d1:=HY2C.out.cell 1 _ rfl
 have d2:=HY2C.out.cell 2 _ rfl
 have d3:=HY2C.out.cell 3 _ rfl
 have d4:=HY2C.out.cell 4 _ rfl
 have d5:=HY2C.out.cell 5 _ rfl
 have d6:=HY2C.out.cell 6 _ rfl
 have d7:=HY2C.out.cell 7 _ rfl
 have d8:=HY2C.out.cell 8 _ rfl
 have d9:=HY2C.out.cell 9 _ rfl
 clear hkd hdb hdl
 go_wp2_with fail
 refine (HFI.out _ _ _ _ (HEN.out.kept (HK5.out.trans HKD.out)) (HSS.out.kept HKD.out) (HP2.out.kept HKD.out) HDL.out).mono ?_
 rintro e w6 ⟨aM6,nM6,cM6,vB6,b6,rfl,hb6,hln6,hk6⟩
 obtain ⟨aB6,cB6,hvb6,lB6⟩:=hb6.form
 have hvb6':vB6=.slice aB6 1 cB6:=hvb6
 subst hvb6'
 have HB6:=Lib.hid hb6
 have hk56:=HKD.out.trans hk6
 have HK6:=Lib.hid (HK5.out.trans hk56)
 have HST:=Lib.hid (HST.out.kept hk56)
 have HDB:=Lib.hid (HDB.out.kept hk6)
 have HDL:=Lib.hid ((HDL.out.kept hk6).mono (fun g _ q=>Nat.lt_of_lt_of_le q hk6.size))
 have HLN6:=Lib.hid hln6
 generalize w5.heap.size=D at *
 have hka:=kept_alloc w6 (.cells #[.slice aM6 nM6 cM6,.slice aB6 1 cB6] 25)
 have hdc:=HDB.out.kept hka
 have d0:=hdc.cell 0 _ rfl
 have d1:=hdc.cell 1 _ rfl
 have HKA:=Lib.hid hka
 clear hdc hka hk6 hk56 hb6 hln6 HK5 HKD HSS HP2 HY2B HFI hvb6 d2 d3 d4 d5 d6 d7 d8 d9
 go_wp2_with fail
 refine (HKY.out _ _ ((HDL.out.kept HKA.out).mono (fun g _ q=>Nat.lt_of_lt_of_le q HKA.out.size))).mono ?_
 rintro e w7 ⟨vK7,rfl,hs7,hk7⟩
 obtain ⟨aK7,cK7,hvk7,hlK,hcK⟩:=hs7
 have hlK':1≤cK7:=hlK
 have hvk7':vK7=.slice aK7 1 cK7:=hvk7
 subst hvk7'
 obtain ⟨gK,oK,rfl,hgK,hcK⟩:=hcK (by simp)
 have HSK:Hid (Strs w7 (.slice (some ⟨gK,oK,none⟩) 1 cK7) [[97]]):=⟨_,cK7,rfl,by omega,fun _=>⟨gK,oK,rfl,hgK,hcK⟩⟩
 have hk67:=HKA.out.trans hk7
 obtain ⟨aS',cS',hvS,-,hcS⟩:=HST.out.kept hk67
 obtain ⟨rfl,-,rfl⟩:=Value.slice.inj hvS
 obtain ⟨gS,oS,rfl,-,hcS⟩:=hcS (by simp)
 have ss0:=hcS 0 _ rfl
 rw [Nat.add_zero] at ss0
 have ss1:=hcS 1 _ rfl
 have hb7:=HB6.out.kept hk67
 obtain ⟨g6,o6,vC6,vP6,vL6,vK6,rfl,-,-,-,-,-,hc6,-,-,hL6,-⟩:=Bls.at_ hb7 0 b6 rfl
 obtain ⟨aL6,cL6,rfl,lL6⟩:=hL6.form
 have hd7:=(Blk.new w6 25 #[.slice aM6 nM6 cM6,.slice (some ⟨g6,o6,none⟩) 1 cB6]).kept hk7
 have HPLN:Hid (∀ w',Kept w7 w'→Calls Tryz.prog 30 #[.slice aL6 b6.line.length cL6] w' fun e w''=>e=.returned (.string (bs [91,49,44,32,112,46,32,51,93]))∧Kept w' w''):=fun w' k=>by
  have h:=rplain4_any 2 b6.line (.slice aL6 b6.line.length cL6) w' (hL6.kept k) (by have:=HLN6.out.2.1; omega) (fun x hx=>by
   have e:=HLN6.out.2.2 x hx
   rw [e]
   exact ⟨by simp,fun y hy=>absurd hy (by simp)⟩) (by rw [HLN6.out.1]; decide)
  rw [HLN6.out.1] at h
  exact h
 have HL7:=Lib.hid hL6
 have HK7:=Lib.hid (HK6.out.trans hk67)
 have dd0:=hd7.cell 0 _ rfl
 have dd1:=hd7.cell 1 _ rfl
 have bb9:=hc6 9 _ rfl
 rw [Nat.zero_mul,Nat.add_zero] at bb9
 clear hcK hcS hb7 hc6 hL6 hd7 hvS hvk7 d0 d1 HST HB6 HDB HDL HK6 HKY
 generalize w6.heap.size=B9 at *
 clear hk67 hk7 HKA hgK hlK hlK'
 go_wp2_with fail
 refine (HPLN.out _ (Kept.refl _)).mono ?_
 rintro e w8 ⟨rfl,hk8⟩
 have kk0:w8.cell? ⟨gK,oK,none⟩=some (.string (bs [97])):=by
  obtain ⟨a,c,hv,-,hcK⟩:=HSK.out.kept hk8
  obtain ⟨rfl,-,rfl⟩:=Value.slice.inj hv
  obtain ⟨g,o,hgo,-,hcK⟩:=hcK (by simp)
  cases hgo
  have h:=hcK 0 _ rfl
  rwa [Nat.add_zero] at h
 have HF8:=Lib.hid (HFIN.out w8 (HK7.out.trans hk8))
 clear ss0 ss1 dd0 dd1 bb9 HPLN HSK HK7 hk8 HL7
 go_wp2_with fail
 refine bodyPost_ret (v:=.bool true) ?_ rfl ⟨rfl,HF8.out.2⟩
 simp [results,Tryz.results10,go_sem]
end Go.Proofs.YtmcoomlkbgiboaaGreatDoor
