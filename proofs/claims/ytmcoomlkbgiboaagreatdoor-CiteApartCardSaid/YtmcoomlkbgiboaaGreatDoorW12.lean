/- (*reader).begin of package bib. Conditions: lengths. -/
import Derived.Test.YtmcoomlkbgiboaaGreatDoorW11
import Derived.Test.YtmcoomlkbgiboaaGreatDoorW02
import Derived.Test.YtmcoomlkbgiboaaGreatDoorW08
set_option linter.all false
set_option maxRecDepth 100000
set_option maxHeartbeats 6400000
namespace Go.Proofs.YtmcoomlkbgiboaaGreatDoor
open Go.RowKit
def zvV:SrcT:=⟨[],[],[],[],[]⟩
def ztQ:Bs:=[116,105,116,108,101]
def Srcs (w:World) (v:Value) (ss:List SrcT):Prop :=
 ∃ a c,v=.slice a ss.length c/\ss.length<=c/\(0<ss.length->∃ g o,a=some ⟨g,o,none⟩/\g<w.heap.size/\∀ j s,ss[j]? = some s->∃ vA vE vF,
  w.cell? ⟨g,o+j * 5,none⟩=some (.string (bs s.key))/\w.cell? ⟨g,o+j * 5+1,none⟩=some (.string (bs s.type))/\w.cell? ⟨g,o+j * 5+2,none⟩=some vA/\w.cell? ⟨g,o+j * 5+3,none⟩=some vE/\w.cell? ⟨g,o+j * 5+4,none⟩=some vF /\
  Perss w vA s.author/\Perss w vE s.editor/\Prs w vF s.fields)
def zdL:List P4->Int
 | []=>0
 | p :: ps=>if zeX p.1 p.2.1 p.2.2.1 p.2.2.2≠0 then zeX p.1 p.2.1 p.2.2.1 p.2.2.2 else zdL ps
def zmY (ds:List Pr) (f:Pr):Int :=
 if (zc0 f.1=false\/f.1=[97,117,116,104,111,114])\/f.1=[101,100,105,116,111,114] then 6
 else if ((f.2=[]\/zbG (bs f.2)=false)\/f.2.contains 10=true)\/zn7 f.2≠f.2 then 17
 else if zhZ ds f.1=true then 7 else 0
def zoE:List Pr->List Pr->Int
 | _,[]=>0
 | ds,f :: fs=>if zmY ds f≠0 then zmY ds f else zoE (ds ++ [f]) fs
def zw7 (s:SrcT):Int :=
 if (32<s.author.length\/32<s.editor.length)\/24<s.fields.length then 3
 else if zdL s.author≠0 then zdL s.author else if zdL s.editor≠0 then zdL s.editor
 else if zoE [] s.fields≠0 then zoE [] s.fields else if zhZ s.fields ztQ=true then 0 else 8
theorem zoF (ps:List P4) (k:Nat) (p:P4) (h:ps[k]? = some p):zdL (ps.drop k)=if zeX p.1 p.2.1 p.2.2.1 p.2.2.2≠0 then zeX p.1 p.2.1 p.2.2.1 p.2.2.2 else zdL (ps.drop (k+1)):=by
 obtain ⟨hk,rfl⟩:=List.getElem?_eq_some_iff.1 h;rw[List.drop_eq_getElem_cons hk];rfl
theorem zyF (ps:List Pr) (k:Nat) (p:Pr) (h:ps[k]? = some p):zoE (ps.take k) (ps.drop k)=if zmY (ps.take k) p≠0 then zmY (ps.take k) p else zoE (ps.take (k+1)) (ps.drop (k+1)):=by
 obtain ⟨hk,rfl⟩:=List.getElem?_eq_some_iff.1 h;rw[List.drop_eq_getElem_cons hk,List.take_succ_eq_append_getElem hk];rfl
theorem Prs.front {w:World} {a:Option Addr} {n c:Nat} {ps:List Pr} (h:Prs w (.slice a n c) ps) (k:Nat) (hk:k<=ps.length) (c':Nat) (hc:k<=c'):Prs w (.slice a k c') (ps.take k):=by
 obtain ⟨a',c2,hv,_,h3⟩:=h;obtain ⟨rfl,_,_⟩:=Value.slice.inj hv;refine ⟨a,c',by rw[List.length_take,Nat.min_eq_left hk],by rw[List.length_take];omega,fun q=>?_⟩;rw[List.length_take] at q;obtain ⟨g,o,ha,hg,hc⟩:=h3 (by omega);refine ⟨g,o,ha,hg,fun j x hx=>hc j x ?_⟩;rw[List.getElem?_take] at hx
 split at hx
 ·exact hx
 ·cases hx
def SmallP (ps:List P4):Prop:=∀ p∈ps,p.1.length+p.2.1.length+p.2.2.1.length+p.2.2.2.length<=4400000
def SmallF (ps:List Pr):Prop:=∀ p∈ps,p.1.length<=1100000/\p.2.length<=1100000
theorem zyG (s:SrcT) (vA vE vF:Value) (w:World) (hg:Gnd w) (hA:Perss w vA s.author) (hE:Perss w vE s.editor) (hF:Prs w vF s.fields) (h1:SmallP s.author) (h2:SmallP s.editor) (h3:SmallF s.fields) (hl1:s.author.length<=1100000) (hl2:s.editor.length<=1100000) (hl3:s.fields.length<=1100000) :
  Calls Tryz.prog 126 #[zi0 s.key s.type vA vE vF] w fun e w'=>e=.returned (.int .i64 (zw7 s))/\Kept w w':=by
 obtain ⟨key,type,au,ed,fs⟩:=s;simp only at hA hE hF h1 h2 h3 hl1 hl2 hl3 ⊢;have HR:Hid (zw7 ⟨key,type,au,ed,fs⟩=if (32<au.length\/32<ed.length)\/24<fs.length then 3
 else if zdL au≠0 then zdL au else if zdL ed≠0 then zdL ed
 else if zoE [] fs≠0 then zoE [] fs else if zhZ fs ztQ=true then 0 else 8):=rfl
 obtain ⟨R,HRR⟩:∃ R,Hid (zw7 ⟨key,type,au,ed,fs⟩=R):=⟨_,rfl⟩;rw[HRR.out] at HR ⊢;clear HRR;have HA:=Hd hA;have HE:=Hd hE;have HF:=Hd hF;obtain ⟨a1,c1,rfl,hc1,hh1⟩:=hA;clear hh1;obtain ⟨a2,c2,rfl,hc2,hh2⟩:=hE;clear hh2;obtain ⟨a3,c3,rfl,hc3,hh3⟩:=hF;clear hh3;by_cases hlim:(32<au.length\/32<ed.length)\/24<fs.length
 ·rw[if_pos hlim] at HR;by_cases q1:32<au.length
  ·go_enter Tryz.func126,Tryz.ntmps126;go_wp2_with fail;go_ret;exact ⟨by rw[HR.out];rfl,zaA _ _⟩
  ·by_cases q2:32<ed.length
   ·go_enter Tryz.func126,Tryz.ntmps126;go_wp2_with fail;go_ret;exact ⟨by rw[HR.out];rfl,zaA _ _⟩
   ·have q3:24<fs.length:=(by omega);go_enter Tryz.func126,Tryz.ntmps126;go_wp2_with fail;go_ret;exact ⟨by rw[HR.out];rfl,zaA _ _⟩
 ·rw[if_neg hlim] at HR;have q1:au.length<=32:=(by omega);have q2:ed.length<=32:=(by omega);have q3:fs.length<=24:=(by omega);have HB3:Hid (∀ w',Kept (w.alloc (.cells #[.string (bs key),.string (bs type),.slice a1 au.length c1,.slice a2 ed.length c2,.slice a3 fs.length c3] 50)) w'->w'.cell? ⟨w.heap.size,3,none⟩=some (.slice a2 ed.length c2)):=fun w' hk=>((Blk.new w 50 #[.string (bs key),.string (bs type),.slice a1 au.length c1,.slice a2 ed.length c2,.slice a3 fs.length c3]).kept hk).cell 3 _ rfl;have HB4:Hid (∀ w',Kept (w.alloc (.cells #[.string (bs key),.string (bs type),.slice a1 au.length c1,.slice a2 ed.length c2,.slice a3 fs.length c3] 50)) w'->w'.cell? ⟨w.heap.size,4,none⟩=some (.slice a3 fs.length c3)):=fun w' hk=>((Blk.new w 50 #[.string (bs key),.string (bs type),.slice a1 au.length c1,.slice a2 ed.length c2,.slice a3 fs.length c3]).kept hk).cell 4 _ rfl;have HK0:=Hd (zaA w (.cells #[.string (bs key),.string (bs type),.slice a1 au.length c1,.slice a2 ed.length c2,.slice a3 fs.length c3] 50));go_enter Tryz.func126,Tryz.ntmps126;go_wp2_with fail;generalize w.alloc (.cells #[.string (bs key),.string (bs type),.slice a1 au.length c1,.slice a2 ed.length c2,.slice a3 fs.length c3] 50)=w0 at *;go_loopw [33] (fun i wr=>∃ k:Nat,k<=au.length/\i=.int .i64 k/\Hid (zdL au=zdL (au.drop k))/\Hid (Kept w0 wr)) (fun i _=>au.length - (intOf i).toNat)
  case atStart=>exact ⟨0,Nat.zero_le _,rfl,rfl,Kept.refl _⟩
  case round =>
   obtain ⟨k,hk,rfl,HP,HKR⟩:=hrel;by_cases hlt:k<au.length
   ·obtain ⟨p,hx⟩:∃ x,au[k]? = some x:=⟨_,List.getElem?_eq_getElem hlt⟩;have HSM:=Hd (h1 p (List.mem_of_getElem? hx));have HAT:=Hd (zoF au k p hx);obtain ⟨a',c',hv',hc',h3'⟩:=HA.out.kept (HK0.out.trans HKR.out);obtain ⟨rfl,hdead,rfl⟩:=Value.slice.inj hv';clear hdead hc';obtain ⟨g,o,rfl,hg',hcc⟩:=h3' (by omega);obtain ⟨d0,d1,d2,d3⟩:=hcc k p hx;obtain ⟨pf,pg,pp,ps⟩:=p;simp only at d0 d1 d2 d3 HSM HAT;have HT:=Hd (fun w hg=>ztO pf pg pp ps w hg (by have:=HSM.out;omega));have HGR:=Hd (hg.kept (HK0.out.trans HKR.out));clear hcc h3' hv' hx;generalize zeX pf pg pp ps=E at *;generalize zf8 pf pg pp ps=X at *;go_wp2_with fail;refine (HT.out _ (HGR.out.kept (zaA _ _))).mono ?_;rintro e w3 ⟨rfl,hk3⟩;have HK3:=Hd ((HKR.out.trans (zaA _ _)).trans hk3);clear hk3 d0 d1 d2 d3 hg';by_cases hE:E=0
    ·subst hE;rw[if_neg (by simp)] at HAT;go_wp2_with fail;go_roundw
     case rel=>exact ⟨k+1,by omega,by go_num,Hd (HP.out.trans HAT.out),HK3⟩
     case measure=>simp [intOf];omega
    ·rw[if_pos hE] at HAT;rw[HP.out,HAT.out,if_pos hE] at HR;go_wp2_with fail;go_ret;exact ⟨by rw[HR.out];rfl,HK0.out.trans HK3.out⟩
   ·obtain rfl:k=au.length:=(by omega);rw[List.drop_length] at HP;have hz:zdL au=0:=HP.out;rw[if_neg (by rw[hz];simp)] at HR;have e3:=HB3.out _ HKR.out;have e4:=HB4.out _ HKR.out;clear HP hz;go_wp2_with fail;clear e3 e4;generalize wr=w5 at *;go_loopw [49] (fun i wr=>∃ k:Nat,k<=ed.length/\i=.int .i64 k/\Hid (zdL ed=zdL (ed.drop k))/\Hid (Kept w0 wr)) (fun i _=>ed.length - (intOf i).toNat)
    case atStart=>exact ⟨0,Nat.zero_le _,rfl,rfl,HKR.out⟩
    case round =>
     obtain ⟨k,hk,rfl,HP,HKR⟩:=hrel;by_cases hlt:k<ed.length
     ·obtain ⟨p,hx⟩:∃ x,ed[k]? = some x:=⟨_,List.getElem?_eq_getElem hlt⟩;have HSM:=Hd (h2 p (List.mem_of_getElem? hx));have HAT:=Hd (zoF ed k p hx);obtain ⟨a',c',hv',hc',h3'⟩:=HE.out.kept (HK0.out.trans HKR.out);obtain ⟨rfl,hdead,rfl⟩:=Value.slice.inj hv';clear hdead hc';obtain ⟨g,o,rfl,hg',hcc⟩:=h3' (by omega);obtain ⟨d0,d1,d2,d3⟩:=hcc k p hx;obtain ⟨pf,pg,pp,ps⟩:=p;simp only at d0 d1 d2 d3 HSM HAT;have HT:=Hd (fun w hg=>ztO pf pg pp ps w hg (by have:=HSM.out;omega));have HGR:=Hd (hg.kept (HK0.out.trans HKR.out));clear hcc h3' hv' hx;generalize zeX pf pg pp ps=E at *;generalize zf8 pf pg pp ps=X at *;go_wp2_with fail;refine (HT.out _ (HGR.out.kept (zaA _ _))).mono ?_;rintro e w3 ⟨rfl,hk3⟩;have HK3:=Hd ((HKR.out.trans (zaA _ _)).trans hk3);clear hk3 d0 d1 d2 d3 hg';by_cases hE:E=0
      ·subst hE;rw[if_neg (by simp)] at HAT;go_wp2_with fail;go_roundw
       case rel=>exact ⟨k+1,by omega,by go_num,Hd (HP.out.trans HAT.out),HK3⟩
       case measure=>simp [intOf];omega
      ·rw[if_pos hE] at HAT;rw[HP.out,HAT.out,if_pos hE] at HR;go_wp2_with fail;go_ret;exact ⟨by rw[HR.out];rfl,HK0.out.trans HK3.out⟩
     ·obtain rfl:k=ed.length:=(by omega);rw[List.drop_length] at HP;have hz:zdL ed=0:=HP.out;rw[if_neg (by rw[hz];simp)] at HR;have e4:=HB4.out _ HKR.out;clear HP hz;go_wp2_with fail;clear e4;generalize wr=w6 at *;go_loopw [65] (fun i wr=>∃ k:Nat,k<=fs.length/\i=.int .i64 k/\Hid (zoE [] fs=zoE (fs.take k) (fs.drop k))/\Hid (Kept w0 wr)) (fun i _=>fs.length - (intOf i).toNat)
      case atStart=>exact ⟨0,Nat.zero_le _,rfl,rfl,HKR.out⟩
      case round =>
       clear HKR;obtain ⟨k,hk,rfl,HP,HKR⟩:=hrel;by_cases hlt:k<fs.length
       ·obtain ⟨p,hx⟩:∃ x,fs[k]? = some x:=⟨_,List.getElem?_eq_getElem hlt⟩;obtain ⟨hsm1,hsm2⟩:=h3 p (List.mem_of_getElem? hx);have HAT:=Hd (zyF fs k p hx);have HPR:=Hd (HF.out.kept (HK0.out.trans HKR.out));obtain ⟨a',c',hv',hc',h3'⟩:=HPR.out;obtain ⟨rfl,hdead,rfl⟩:=Value.slice.inj hv';clear hdead hc';obtain ⟨g,o,rfl,hg',hcc⟩:=h3' (by omega);obtain ⟨d0,d1⟩:=hcc k p hx;obtain ⟨x,y⟩:=p;simp only at d0 d1 hsm1 hsm2 HAT;have HERR:Hid (∀ c:Int,c≠0->zmY (fs.take k) (x,y)=c->R=c):=by
         intro c hc he;have hz:zoE [] fs=c:=(by rw[HP.out,HAT.out,he,if_pos hc]);rw[HR.out,hz,if_pos hc]
        have HNX:Hid (zmY (fs.take k) (x,y)=0->zoE [] fs=zoE (fs.take (k+1)) (fs.drop (k+1))):=by
         intro he;rw[HP.out,HAT.out,he,if_neg (by simp)]
        have HHF:Hid (∀ w',Kept wr w'->Calls Tryz.prog 173 #[.slice (some ⟨g,o,none⟩) k c3,.string (bs x)] w' fun e w''=>e=.returned (.bool (zhZ (fs.take k) x))/\Kept w' w''):=fun w' hk'=>zjS _ _ _ _ ((HPR.out.kept hk').front k hk c3 (by omega)) (by rw[List.length_take];omega);have HN:=Hd (fun w=>zi1 x w hsm1);have HV:=Hd (fun w=>zk9 (bs y) w (by simp;omega));have HC:Hid (∀ w,Calls Tryz.prog 134 #[.string (bs y),.string (bs [10])] w fun e w'=>e=.returned (.bool (y.contains 10))/\w'=w):=by
         intro w;refine (Tryz.strings_Contains_one (bs y) 10 w).mono ?_;rintro e w' ⟨rfl,rfl⟩;refine ⟨?_,rfl⟩;rw[zfI,<- zbB]
        have HT:=Hd (fun w=>zBg y w hsm2);have HBX:Hid (∀ w',Kept (wr.alloc (.cells #[.string (bs x),.string (bs y)] 62)) w'->w'.cell? ⟨wr.heap.size,0,none⟩=some (.string (bs x))):=fun w' hk=>((Blk.new wr 62 #[.string (bs x),.string (bs y)]).kept hk).cell 0 _ rfl;have HBY:Hid (∀ w',Kept (wr.alloc (.cells #[.string (bs x),.string (bs y)] 62)) w'->w'.cell? ⟨wr.heap.size,1,none⟩=some (.string (bs y))):=fun w' hk=>((Blk.new wr 62 #[.string (bs x),.string (bs y)]).kept hk).cell 1 _ rfl;clear hcc h3' hv' hx HAT HP;have HE1:Hid (zmY (fs.take k) (x,y)=if (zc0 x=false\/x=[97,117,116,104,111,114])\/x=[101,100,105,116,111,114] then 6 else if ((y=[]\/zbG (bs y)=false)\/y.contains 10=true)\/zn7 y≠y then 17 else if zhZ (fs.take k) x=true then 7 else 0):=rfl;generalize zmY (fs.take k) (x,y)=E at *;generalize zhZ (fs.take k) x=hb at *;generalize zbG (bs y)=vb at *;generalize zn7 y=ty at *;generalize y.contains 10=cb at *;go_wp2_with fail;refine (HN.out _).mono ?_;rintro e w7 ⟨rfl,hk7⟩;have e0:=HBX.out _ hk7;have e1:=HBY.out _ hk7;have HK7a:=Hd hk7;have HK7:=Hd ((zaA wr _).trans hk7);have HK8:=Hd (HKR.out.trans HK7.out);have e4:=HB4.out _ HK8.out;clear hk7 d0 d1 hg';generalize zc0 x=nb at *;cases nb
        ·rw[if_pos (.inl (.inl rfl))] at HE1;have HRR:=Hd (HERR.out 6 (by decide) HE1.out);go_wp2_with fail;go_ret;exact ⟨by rw[HRR.out];rfl,HK0.out.trans HK8.out⟩
        by_cases hxa:x=[97,117,116,104,111,114]
        ·rw[if_pos (.inl (.inr hxa))] at HE1;have HRR:=Hd (HERR.out 6 (by decide) HE1.out);subst hxa;go_wp2_with fail;go_ret;exact ⟨by rw[HRR.out];rfl,HK0.out.trans HK8.out⟩
        by_cases hxe:x=[101,100,105,116,111,114]
        ·rw[if_pos (.inr hxe)] at HE1;have HRR:=Hd (HERR.out 6 (by decide) HE1.out);subst hxe;go_wp2_with fail;go_ret;exact ⟨by rw[HRR.out];rfl,HK0.out.trans HK8.out⟩
        rw[if_neg (by simp [hxa,hxe])] at HE1;have hxa':(x == [97,117,116,104,111,114])=false:=(by simpa using hxa);have hxe':(x == [101,100,105,116,111,114])=false:=(by simpa using hxe);by_cases hy:y=[]
        ·rw[if_pos (.inl (.inl (.inl hy)))] at HE1;have HRR:=Hd (HERR.out 17 (by decide) HE1.out);subst hy;go_wp2_with fail;go_ret;exact ⟨by rw[HRR.out];rfl,HK0.out.trans HK8.out⟩
        have hy':(y == [])=false:=(by simpa using hy);go_wp2_with fail;refine (HV.out _).mono ?_;rintro e w8 ⟨rfl,n8,rfl⟩;have HK9:=Hd (HK8.out.trans (zaB w7 n8));have HK10:=Hd (HK7.out.trans (zaB w7 n8));have f0:=HBX.out _ (HK7a.out.trans (zaB w7 n8));have f4:=HB4.out _ HK9.out;clear e0 e1 e4;generalize w7.drewN n8=w8 at *;cases vb
        ·rw[if_pos (.inl (.inl (.inr rfl)))] at HE1;have HRR:=Hd (HERR.out 17 (by decide) HE1.out);go_wp2_with fail;go_ret;exact ⟨by rw[HRR.out];rfl,HK0.out.trans HK9.out⟩
        go_wp2_with fail;refine (HC.out _).mono ?_;rintro e w9 ⟨rfl,rfl⟩;cases cb
        case true =>
         rw[if_pos (.inl (.inr rfl))] at HE1;have HRR:=Hd (HERR.out 17 (by decide) HE1.out);go_wp2_with fail;go_ret;exact ⟨by rw[HRR.out];rfl,HK0.out.trans HK9.out⟩
        go_wp2_with fail;refine (HT.out _).mono ?_;rintro e w10 ⟨rfl,rfl⟩;by_cases hty:ty=y
        case neg =>
         rw[if_pos (.inr hty)] at HE1;have HRR:=Hd (HERR.out 17 (by decide) HE1.out);have hty':(ty == y)=false:=(by simpa using hty);go_wp2_with fail;go_ret;exact ⟨by rw[HRR.out];rfl,HK0.out.trans HK9.out⟩
        subst hty;rw[if_neg (by simp [hy])] at HE1;go_wp2_with fail;have hkc:k<=c3:=(by omega)
        go_region_with (go_at_call 173;refine (HHF.out _ (HK10.out.trans (zaB _ 1))).mono ?_;rintro e w11 ⟨rfl,hk11⟩;have HK11:=Hd ((HK9.out.trans (zaB _ 1)).trans hk11);clear hk11)
        all_goals
         cases hb
         ·rw[if_neg (by simp)] at HE1;have HN2:=Hd (HNX.out HE1.out);go_wp2_with fail;go_roundw
          case rel=>exact ⟨k+1,by omega,by go_num,HN2,HK11⟩
          case measure=>simp [intOf];omega
         ·rw[if_pos rfl] at HE1;have HRR:=Hd (HERR.out 7 (by decide) HE1.out);go_wp2_with fail;go_ret;exact ⟨by rw[HRR.out];rfl,HK0.out.trans HK11.out⟩
       ·obtain rfl:k=fs.length:=(by omega);rw[List.drop_length] at HP;have hz:zoE [] fs=0:=HP.out;rw[if_neg (by rw[hz];simp)] at HR;have e4:=HB4.out _ HKR.out;have HHF:=Hd (zjS _ fs ztQ wr (HF.out.kept (HK0.out.trans HKR.out)) hl3);unfold ztQ at HHF HR;clear HP hz;generalize zhZ fs [116,105,116,108,101]=hb at *;go_wp2_with fail;refine (HHF.out).mono ?_;rintro e w11 ⟨rfl,hk11⟩;have HK11:=Hd (HKR.out.trans hk11);clear hk11;cases hb
        ·rw[if_neg (by simp)] at HR;go_wp2_with fail;go_ret;exact ⟨by rw[HR.out];rfl,HK0.out.trans HK11.out⟩
        ·rw[if_pos rfl] at HR;go_wp2_with fail;go_ret;exact ⟨by rw[HR.out];rfl,HK0.out.trans HK11.out⟩
end Go.Proofs.YtmcoomlkbgiboaaGreatDoor
