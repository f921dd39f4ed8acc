/- (*reader).line of package bib: the end of a source. Conditions: lengths. -/
import Derived.Test.YtmcoomlkbgiboaaGreatDoorU11
import Derived.Test.YtmcoomlkbgiboaaGreatDoorU08
set_option linter.all false
set_option maxRecDepth 100000
set_option maxHeartbeats 6400000
namespace Go.Proofs.YtmcoomlkbgiboaaGreatDoor
open Go.RowKit
def ztR:Bs:=[116,105,116,108,101]
def Srcs (w:World) (v:Value) (ss:List SrcT):Prop :=
 ∃ a c,v=.slice a ss.length c/\ss.length<=c/\(0<ss.length->∃ g o,a=some ⟨g,o,none⟩/\g<w.heap.size/\∀ j s,ss[j]? = some s->∃ vA vE vF,
  w.cell? ⟨g,o+j * 5,none⟩=some (.string (bs s.key))/\w.cell? ⟨g,o+j * 5+1,none⟩=some (.string (bs s.type))/\w.cell? ⟨g,o+j * 5+2,none⟩=some vA/\w.cell? ⟨g,o+j * 5+3,none⟩=some vE/\w.cell? ⟨g,o+j * 5+4,none⟩=some vF /\
  Perss w vA s.author/\Perss w vE s.editor/\Prs w vF s.fields)
def zgF:List P4->Int
 | []=>0
 | p :: ps=>if zi0 p.1 p.2.1 p.2.2.1 p.2.2.2≠0 then zi0 p.1 p.2.1 p.2.2.1 p.2.2.2 else zgF ps
def zqI (ds:List Pr) (f:Pr):Int :=
 if (zg7 f.1=false\/f.1=[97,117,116,104,111,114])\/f.1=[101,100,105,116,111,114] then 6
 else if ((f.2=[]\/zbQ (bs f.2)=false)\/f.2.contains 10=true)\/zxT f.2≠f.2 then 17
 else if zm9 ds f.1=true then 7 else 0
def zvJ:List Pr->List Pr->Int
 | _,[]=>0
 | ds,f :: fs=>if zqI ds f≠0 then zqI ds f else zvJ (ds ++ [f]) fs
def zCT (s:SrcT):Int :=
 if (32<s.author.length\/32<s.editor.length)\/24<s.fields.length then 3
 else if zgF s.author≠0 then zgF s.author else if zgF s.editor≠0 then zgF s.editor
 else if zvJ [] s.fields≠0 then zvJ [] s.fields else if zm9 s.fields ztR=true then 0 else 8
theorem ztS (ps:List P4) (k:Nat) (p:P4) (h:ps[k]? = some p):zgF (ps.drop k)=if zi0 p.1 p.2.1 p.2.2.1 p.2.2.2≠0 then zi0 p.1 p.2.1 p.2.2.1 p.2.2.2 else zgF (ps.drop (k+1)):=by
 obtain ⟨hk,rfl⟩:=List.getElem?_eq_some_iff.1 h;rw[List.drop_eq_getElem_cons hk];rfl
theorem zDh (ps:List Pr) (k:Nat) (p:Pr) (h:ps[k]? = some p):zvJ (ps.take k) (ps.drop k)=if zqI (ps.take k) p≠0 then zqI (ps.take k) p else zvJ (ps.take (k+1)) (ps.drop (k+1)):=by
 obtain ⟨hk,rfl⟩:=List.getElem?_eq_some_iff.1 h;rw[List.drop_eq_getElem_cons hk,List.take_succ_eq_append_getElem hk];rfl
theorem Prs.front {w:World} {a:Option Addr} {n c:Nat} {ps:List Pr} (h:Prs w (.slice a n c) ps) (k:Nat) (hk:k<=ps.length) (c':Nat) (hc:k<=c'):Prs w (.slice a k c') (ps.take k):=by
 obtain ⟨a',c2,hv,_,h3⟩:=h;obtain ⟨rfl,_,_⟩:=Value.slice.inj hv;refine ⟨a,c',by rw[List.length_take,Nat.min_eq_left hk],by rw[List.length_take];omega,fun q=>?_⟩;rw[List.length_take] at q;obtain ⟨g,o,ha,hg,hc⟩:=h3 (by omega);refine ⟨g,o,ha,hg,fun j x hx=>hc j x ?_⟩;rw[List.getElem?_take] at hx
 split at hx
 ·exact hx
 ·cases hx
def SmallP (ps:List P4):Prop:=∀ p∈ps,p.1.length+p.2.1.length+p.2.2.1.length+p.2.2.2.length<=4400000
def SmallF (ps:List Pr):Prop:=∀ p∈ps,p.1.length<=1100000/\p.2.length<=1100000
theorem zyA (s:SrcT) (vA vE vF:Value) (w:World) (hg:Gnd w) (hA:Perss w vA s.author) (hE:Perss w vE s.editor) (hF:Prs w vF s.fields) (h1:SmallP s.author) (h2:SmallP s.editor) (h3:SmallF s.fields) (hl1:s.author.length<=1100000) (hl2:s.editor.length<=1100000) (hl3:s.fields.length<=1100000) :
  Calls Tryz.prog 126 #[zhB s.key s.type vA vE vF] w fun e w'=>e=.returned (.int .i64 (zCT s))/\Kept w w':=by
 obtain ⟨key,type,au,ed,fs⟩:=s;simp only at hA hE hF h1 h2 h3 hl1 hl2 hl3 ⊢;have HR:Hid (zCT ⟨key,type,au,ed,fs⟩=if (32<au.length\/32<ed.length)\/24<fs.length then 3
 else if zgF au≠0 then zgF au else if zgF ed≠0 then zgF ed
 else if zvJ [] fs≠0 then zvJ [] fs else if zm9 fs ztR=true then 0 else 8):=rfl
 obtain ⟨R,HRR⟩:∃ R,Hid (zCT ⟨key,type,au,ed,fs⟩=R):=⟨_,rfl⟩;rw[HRR.out] at HR ⊢;clear HRR;have HA:=Hd hA;have HE:=Hd hE;have HF:=Hd hF;obtain ⟨a1,c1,rfl,hc1,hh1⟩:=hA;clear hh1;obtain ⟨a2,c2,rfl,hc2,hh2⟩:=hE;clear hh2;obtain ⟨a3,c3,rfl,hc3,hh3⟩:=hF;clear hh3;by_cases hlim:(32<au.length\/32<ed.length)\/24<fs.length
 ·rw[if_pos hlim] at HR;by_cases q1:32<au.length
  ·go_enter Tryz.func126,Tryz.ntmps126;go_wp2_with fail;go_ret;exact ⟨by rw[HR.out];rfl,zaA _ _⟩
  ·by_cases q2:32<ed.length
   ·go_enter Tryz.func126,Tryz.ntmps126;go_wp2_with fail;go_ret;exact ⟨by rw[HR.out];rfl,zaA _ _⟩
   ·have q3:24<fs.length:=(by omega);go_enter Tryz.func126,Tryz.ntmps126;go_wp2_with fail;go_ret;exact ⟨by rw[HR.out];rfl,zaA _ _⟩
 ·rw[if_neg hlim] at HR;have q1:au.length<=32:=(by omega);have q2:ed.length<=32:=(by omega);have q3:fs.length<=24:=(by omega);have HB3:Hid (∀ w',Kept (w.alloc (.cells #[.string (bs key),.string (bs type),.slice a1 au.length c1,.slice a2 ed.length c2,.slice a3 fs.length c3] 50)) w'->w'.cell? ⟨w.heap.size,3,none⟩=some (.slice a2 ed.length c2)):=fun w' hk=>((Blk.new w 50 #[.string (bs key),.string (bs type),.slice a1 au.length c1,.slice a2 ed.length c2,.slice a3 fs.length c3]).kept hk).cell 3 _ rfl;have HB4:Hid (∀ w',Kept (w.alloc (.cells #[.string (bs key),.string (bs type),.slice a1 au.length c1,.slice a2 ed.length c2,.slice a3 fs.length c3] 50)) w'->w'.cell? ⟨w.heap.size,4,none⟩=some (.slice a3 fs.length c3)):=fun w' hk=>((Blk.new w 50 #[.string (bs key),.string (bs type),.slice a1 au.length c1,.slice a2 ed.length c2,.slice a3 fs.length c3]).kept hk).cell 4 _ rfl;have HK0:=Hd (zaA w (.cells #[.string (bs key),.string (bs type),.slice a1 au.length c1,.slice a2 ed.length c2,.slice a3 fs.length c3] 50));go_enter Tryz.func126,Tryz.ntmps126;go_wp2_with fail;generalize w.alloc (.cells #[.string (bs key),.string (bs type),.slice a1 au.length c1,.slice a2 ed.length c2,.slice a3 fs.length c3] 50)=w0 at *;go_loopw [33] (fun i wr=>∃ k:Nat,k<=au.length/\i=.int .i64 k/\Hid (zgF au=zgF (au.drop k))/\Hid (Kept w0 wr)) (fun i _=>au.length - (intOf i).toNat)
  case atStart=>exact ⟨0,Nat.zero_le _,rfl,rfl,Kept.refl _⟩
  case round =>
   obtain ⟨k,hk,rfl,HP,HKR⟩:=hrel;by_cases hlt:k<au.length
   ·obtain ⟨p,hx⟩:∃ x,au[k]? = some x:=⟨_,List.getElem?_eq_getElem hlt⟩;have HSM:=Hd (h1 p (List.mem_of_getElem? hx));have HAT:=Hd (ztS au k p hx);obtain ⟨a',c',hv',hc',h3'⟩:=HA.out.kept (HK0.out.trans HKR.out);obtain ⟨rfl,hdead,rfl⟩:=Value.slice.inj hv';clear hdead hc';obtain ⟨g,o,rfl,hg',hcc⟩:=h3' (by omega);obtain ⟨d0,d1,d2,d3⟩:=hcc k p hx;obtain ⟨pf,pg,pp,ps⟩:=p;simp only at d0 d1 d2 d3 HSM HAT;have HT:=Hd (fun w hg=>ztN pf pg pp ps w hg (by have:=HSM.out;omega));have HGR:=Hd (hg.kept (HK0.out.trans HKR.out));clear hcc h3' hv' hx;generalize zi0 pf pg pp ps=E at *;generalize zoE pf pg pp ps=X at *;go_wp2_with fail;refine (HT.out _ (HGR.out.kept (zaA _ _))).mono ?_;rintro e w3 ⟨rfl,hk3⟩;have HK3:=Hd ((HKR.out.trans (zaA _ _)).trans hk3);clear hk3 d0 d1 d2 d3 hg';by_cases hE:E=0
    ·subst hE;rw[if_neg (by simp)] at HAT;go_wp2_with fail;go_roundw
     case rel=>exact ⟨k+1,by omega,by go_num,Hd (HP.out.trans HAT.out),HK3⟩
     case measure=>simp [intOf];omega
    ·rw[if_pos hE] at HAT;rw[HP.out,HAT.out,if_pos hE] at HR;go_wp2_with fail;go_ret;exact ⟨by rw[HR.out];rfl,HK0.out.trans HK3.out⟩
   ·obtain rfl:k=au.length:=(by omega);rw[List.drop_length] at HP;have hz:zgF au=0:=HP.out;rw[if_neg (by rw[hz];simp)] at HR;have e3:=HB3.out _ HKR.out;have e4:=HB4.out _ HKR.out;clear HP hz;go_wp2_with fail;clear e3 e4;generalize wr=w5 at *;go_loopw [49] (fun i wr=>∃ k:Nat,k<=ed.length/\i=.int .i64 k/\Hid (zgF ed=zgF (ed.drop k))/\Hid (Kept w0 wr)) (fun i _=>ed.length - (intOf i).toNat)
    case atStart=>exact ⟨0,Nat.zero_le _,rfl,rfl,HKR.out⟩
    case round =>
     obtain ⟨k,hk,rfl,HP,HKR⟩:=hrel;by_cases hlt:k<ed.length
     ·obtain ⟨p,hx⟩:∃ x,ed[k]? = some x:=⟨_,List.getElem?_eq_getElem hlt⟩;have HSM:=Hd (h2 p (List.mem_of_getElem? hx));have HAT:=Hd (ztS ed k p hx);obtain ⟨a',c',hv',hc',h3'⟩:=HE.out.kept (HK0.out.trans HKR.out);obtain ⟨rfl,hdead,rfl⟩:=Value.slice.inj hv';clear hdead hc';obtain ⟨g,o,rfl,hg',hcc⟩:=h3' (by omega);obtain ⟨d0,d1,d2,d3⟩:=hcc k p hx;obtain ⟨pf,pg,pp,ps⟩:=p;simp only at d0 d1 d2 d3 HSM HAT;have HT:=Hd (fun w hg=>ztN pf pg pp ps w hg (by have:=HSM.out;omega));have HGR:=Hd (hg.kept (HK0.out.trans HKR.out));clear hcc h3' hv' hx;generalize zi0 pf pg pp ps=E at *;generalize zoE pf pg pp ps=X at *;go_wp2_with fail;refine (HT.out _ (HGR.out.kept (zaA _ _))).mono ?_;rintro e w3 ⟨rfl,hk3⟩;have HK3:=Hd ((HKR.out.trans (zaA _ _)).trans hk3);clear hk3 d0 d1 d2 d3 hg';by_cases hE:E=0
      ·subst hE;rw[if_neg (by simp)] at HAT;go_wp2_with fail;go_roundw
       case rel=>exact ⟨k+1,by omega,by go_num,Hd (HP.out.trans HAT.out),HK3⟩
       case measure=>simp [intOf];omega
      ·rw[if_pos hE] at HAT;rw[HP.out,HAT.out,if_pos hE] at HR;go_wp2_with fail;go_ret;exact ⟨by rw[HR.out];rfl,HK0.out.trans HK3.out⟩
     ·obtain rfl:k=ed.length:=(by omega);rw[List.drop_length] at HP;have hz:zgF ed=0:=HP.out;rw[if_neg (by rw[hz];simp)] at HR;have e4:=HB4.out _ HKR.out;clear HP hz;go_wp2_with fail;clear e4;generalize wr=w6 at *;go_loopw [65] (fun i wr=>∃ k:Nat,k<=fs.length/\i=.int .i64 k/\Hid (zvJ [] fs=zvJ (fs.take k) (fs.drop k))/\Hid (Kept w0 wr)) (fun i _=>fs.length - (intOf i).toNat)
      case atStart=>exact ⟨0,Nat.zero_le _,rfl,rfl,HKR.out⟩
      case round =>
       clear HKR;obtain ⟨k,hk,rfl,HP,HKR⟩:=hrel;by_cases hlt:k<fs.length
       ·obtain ⟨p,hx⟩:∃ x,fs[k]? = some x:=⟨_,List.getElem?_eq_getElem hlt⟩;obtain ⟨hsm1,hsm2⟩:=h3 p (List.mem_of_getElem? hx);have HAT:=Hd (zDh fs k p hx);have HPR:=Hd (HF.out.kept (HK0.out.trans HKR.out));obtain ⟨a',c',hv',hc',h3'⟩:=HPR.out;obtain ⟨rfl,hdead,rfl⟩:=Value.slice.inj hv';clear hdead hc';obtain ⟨g,o,rfl,hg',hcc⟩:=h3' (by omega);obtain ⟨d0,d1⟩:=hcc k p hx;obtain ⟨x,y⟩:=p;simp only at d0 d1 hsm1 hsm2 HAT;have HERR:Hid (∀ c:Int,c≠0->zqI (fs.take k) (x,y)=c->R=c):=by
         intro c hc he;have hz:zvJ [] fs=c:=(by rw[HP.out,HAT.out,he,if_pos hc]);rw[HR.out,hz,if_pos hc]
        have HNX:Hid (zqI (fs.take k) (x,y)=0->zvJ [] fs=zvJ (fs.take (k+1)) (fs.drop (k+1))):=by
         intro he;rw[HP.out,HAT.out,he,if_neg (by simp)]
        have HHF:Hid (∀ w',Kept wr w'->Calls Tryz.prog 173 #[.slice (some ⟨g,o,none⟩) k c3,.string (bs x)] w' fun e w''=>e=.returned (.bool (zm9 (fs.take k) x))/\Kept w' w''):=fun w' hk'=>zjY _ _ _ _ ((HPR.out.kept hk').front k hk c3 (by omega)) (by rw[List.length_take];omega);have HN:=Hd (fun w=>zi6 x w hsm1);have HV:=Hd (fun w=>zlB (bs y) w (by simp;omega));have HC:Hid (∀ w,Calls Tryz.prog 134 #[.string (bs y),.string (bs [10])] w fun e w'=>e=.returned (.bool (y.contains 10))/\w'=w):=by
         intro w;refine (Tryz.strings_Contains_one (bs y) 10 w).mono ?_;rintro e w' ⟨rfl,rfl⟩;refine ⟨?_,rfl⟩;rw[zfL,<- za9]
        have HT:=Hd (fun w=>zA7 y w hsm2);have HBX:Hid (∀ w',Kept (wr.alloc (.cells #[.string (bs x),.string (bs y)] 62)) w'->w'.cell? ⟨wr.heap.size,0,none⟩=some (.string (bs x))):=fun w' hk=>((Blk.new wr 62 #[.string (bs x),.string (bs y)]).kept hk).cell 0 _ rfl;have HBY:Hid (∀ w',Kept (wr.alloc (.cells #[.string (bs x),.string (bs y)] 62)) w'->w'.cell? ⟨wr.heap.size,1,none⟩=some (.string (bs y))):=fun w' hk=>((Blk.new wr 62 #[.string (bs x),.string (bs y)]).kept hk).cell 1 _ rfl;clear hcc h3' hv' hx HAT HP;have HE1:Hid (zqI (fs.take k) (x,y)=if (zg7 x=false\/x=[97,117,116,104,111,114])\/x=[101,100,105,116,111,114] then 6 else if ((y=[]\/zbQ (bs y)=false)\/y.contains 10=true)\/zxT y≠y then 17 else if zm9 (fs.take k) x=true then 7 else 0):=rfl;generalize zqI (fs.take k) (x,y)=E at *;generalize zm9 (fs.take k) x=hb at *;generalize zbQ (bs y)=vb at *;generalize zxT y=ty at *;generalize y.contains 10=cb at *;go_wp2_with fail;refine (HN.out _).mono ?_;rintro e w7 ⟨rfl,hk7⟩;have e0:=HBX.out _ hk7;have e1:=HBY.out _ hk7;have HK7a:=Hd hk7;have HK7:=Hd ((zaA wr _).trans hk7);have HK8:=Hd (HKR.out.trans HK7.out);have e4:=HB4.out _ HK8.out;clear hk7 d0 d1 hg';generalize zg7 x=nb at *;cases nb
        ·rw[if_pos (.inl (.inl rfl))] at HE1;have HRR:=Hd (HERR.out 6 (by decide) HE1.out);go_wp2_with fail;go_ret;exact ⟨by rw[HRR.out];rfl,HK0.out.trans HK8.out⟩
        by_cases hxa:x=[97,117,116,104,111,114]
        ·rw[if_pos (.inl (.inr hxa))] at HE1;have HRR:=Hd (HERR.out 6 (by decide) HE1.out);subst hxa;go_wp2_with fail;go_ret;exact ⟨by rw[HRR.out];rfl,HK0.out.trans HK8.out⟩
        by_cases hxe:x=[101,100,105,116,111,114]
        ·rw[if_pos (.inr hxe)] at HE1;have HRR:=Hd (HERR.out 6 (by decide) HE1.out);subst hxe;go_wp2_with fail;go_ret;exact ⟨by rw[HRR.out];rfl,HK0.out.trans HK8.out⟩
        rw[if_neg (by simp [hxa,hxe])] at HE1;have hxa':(x == [97,117,116,104,111,114])=false:=(by simpa using hxa);have hxe':(x == [101,100,105,116,111,114])=false:=(by simpa using hxe);by_cases hy:y=[]
        ·rw[if_pos (.inl (.inl (.inl hy)))] at HE1;have HRR:=Hd (HERR.out 17 (by decide) HE1.out);subst hy;go_wp2_with fail;go_ret;exact ⟨by rw[HRR.out];rfl,HK0.out.trans HK8.out⟩
        have hy':(y == [])=false:=(by simpa using hy);go_wp2_with fail;refine (HV.out _).mono ?_;rintro e w8 ⟨rfl,n8,rfl⟩;have HK9:=Hd (HK8.out.trans (zaB w7 n8));have HK10:=Hd (HK7.out.trans (zaB w7 n8));have f0:=HBX.out _ (HK7a.out.trans (zaB w7 n8));have f4:=HB4.out _ HK9.out;clear e0 e1 e4;generalize w7.drewN n8=w8 at *;cases vb
        ·rw[if_pos (.inl (.inl (.inr rfl)))] at HE1;have HRR:=Hd (HERR.out 17 (by decide) HE1.out);go_wp2_with fail;go_ret;exact ⟨by rw[HRR.out];rfl,HK0.out.trans HK9.out⟩
        go_wp2_with fail;refine (HC.out _).mono ?_;rintro e w9 ⟨rfl,rfl⟩;cases cb
        case true =>
         rw[if_pos (.inl (.inr rfl))] at HE1;have HRR:=Hd (HERR.out 17 (by decide) HE1.out);go_wp2_with fail;go_ret;exact ⟨by rw[HRR.out];rfl,HK0.out.trans HK9.out⟩
        go_wp2_with fail;refine (HT.out _).mono ?_;rintro e w10 ⟨rfl,rfl⟩;by_cases hty:ty=y
        case neg =>
         rw[if_pos (.inr hty)] at HE1;have HRR:=Hd (HERR.out 17 (by decide) HE1.out);have hty':(ty == y)=false:=(by simpa using hty);go_wp2_with fail;go_ret;exact ⟨by rw[HRR.out];rfl,HK0.out.trans HK9.out⟩
        subst hty;rw[if_neg (by simp [hy])] at HE1;go_wp2_with fail;have hkc:k<=c3:=(by omega)
        go_region_with (go_at_call 173;refine (HHF.out _ (HK10.out.trans (zaB _ 1))).mono ?_;rintro e w11 ⟨rfl,hk11⟩;have HK11:=Hd ((HK9.out.trans (zaB _ 1)).trans hk11);clear hk11)
        all_goals
         cases hb
         ·rw[if_neg (by simp)] at HE1;have HN2:=Hd (HNX.out HE1.out);go_wp2_with fail;go_roundw
          case rel=>exact ⟨k+1,by omega,by go_num,HN2,HK11⟩
          case measure=>simp [intOf];omega
         ·rw[if_pos rfl] at HE1;have HRR:=Hd (HERR.out 7 (by decide) HE1.out);go_wp2_with fail;go_ret;exact ⟨by rw[HRR.out];rfl,HK0.out.trans HK11.out⟩
       ·obtain rfl:k=fs.length:=(by omega);rw[List.drop_length] at HP;have hz:zvJ [] fs=0:=HP.out;rw[if_neg (by rw[hz];simp)] at HR;have e4:=HB4.out _ HKR.out;have HHF:=Hd (zjY _ fs ztR wr (HF.out.kept (HK0.out.trans HKR.out)) hl3);unfold ztR at HHF HR;clear HP hz;generalize zm9 fs [116,105,116,108,101]=hb at *;go_wp2_with fail;refine (HHF.out).mono ?_;rintro e w11 ⟨rfl,hk11⟩;have HK11:=Hd (HKR.out.trans hk11);clear hk11;cases hb
        ·rw[if_neg (by simp)] at HR;go_wp2_with fail;go_ret;exact ⟨by rw[HR.out];rfl,HK0.out.trans HK11.out⟩
        ·rw[if_pos rfl] at HR;go_wp2_with fail;go_ret;exact ⟨by rw[HR.out];rfl,HK0.out.trans HK11.out⟩
def zEh:List Bs->List SrcT->Int
 | _,[]=>0
 | ks,s :: ss=>if zg7 s.type=false\/zg7 s.key=false then 6 else if ks.contains s.key=true then 7 else if zCT s≠0 then zCT s else zEh (ks ++ [s.key]) ss
def zqJ (l:List SrcT):Int:=if 256<l.length then 3 else zEh [] l
theorem zDi (l:List SrcT) (ks:List Bs) (k:Nat) (s:SrcT) (h:l[k]? = some s):zEh ks (l.drop k)=if zg7 s.type=false\/zg7 s.key=false then 6 else if ks.contains s.key=true then 7 else if zCT s≠0 then zCT s else zEh (ks ++ [s.key]) (l.drop (k+1)):=by
 obtain ⟨hk,rfl⟩:=List.getElem?_eq_some_iff.1 h;rw[List.drop_eq_getElem_cons hk];rfl
theorem Srcs.kept {w w':World} {v:Value} {ss:List SrcT} (h:Srcs w v ss) (k:Kept w w'):Srcs w' v ss:=by
 obtain ⟨a,c,hv,hc,h3⟩:=h;refine ⟨a,c,hv,hc,fun q=>?_⟩;obtain ⟨g,o,ha,hg,hcell⟩:=h3 q;refine ⟨g,o,ha,Nat.lt_of_lt_of_le hg k.size,fun j x hx=>?_⟩;obtain ⟨vA,vE,vF,c0,c1,c2,c3,c4,h1,h2,h3⟩:=hcell j x hx;exact ⟨vA,vE,vF,(k.cell (p:=⟨g,_,none⟩) hg).trans c0,(k.cell (p:=⟨g,_,none⟩) hg).trans c1,(k.cell (p:=⟨g,_,none⟩) hg).trans c2,(k.cell (p:=⟨g,_,none⟩) hg).trans c3,(k.cell (p:=⟨g,_,none⟩) hg).trans c4,h1.kept k,h2.kept k,h3.kept k⟩
def SmallS (s:SrcT):Prop:=SmallP s.author/\SmallP s.editor/\SmallF s.fields/\s.author.length<=1100000/\s.editor.length<=1100000/\s.fields.length<=1100000/\s.key.length<=1100000/\s.type.length<=1100000
theorem zyB (v:Value) (ss:List SrcT) (w:World) (hg:Gnd w) (hv:Srcs w v ss) (hs:∀ s∈ss,SmallS s) (hl:ss.length<=1100000) :
  Calls Tryz.prog 70 #[v] w fun e w'=>e=.returned (.int .i64 (zqJ ss))/\Kept w w':=by
 have HV:=Hd hv;have HR:Hid (zqJ ss=if 256<ss.length then 3 else zEh [] ss):=rfl;obtain ⟨R,HRR⟩:∃ R,Hid (zqJ ss=R):=⟨_,rfl⟩;rw[HRR.out] at HR ⊢;clear HRR;obtain ⟨a,c,rfl,hc,hh⟩:=hv;clear hh;have mk:=fun w=>run_makeMap (P:=Tryz.prog) 73 w;by_cases hlim:256<ss.length
 ·rw[if_pos hlim] at HR;go_enter Tryz.func70,Tryz.ntmps70;go_wp2_with fail;go_ret;exact ⟨by rw[HR.out];rfl,Kept.refl _⟩
 ·rw[if_neg hlim] at HR;have hlim':ss.length<=256:=(by omega);go_enter Tryz.func70,Tryz.ntmps70;go_wp2_with fail;go_loopw [13] (fun i wr=>∃ (k:Nat) (ks:List Bs),k<=ss.length/\i=.int .i64 k/\Hid (R=zEh ks (ss.drop k))/\Hid (MapK wr w.heap.size ks)/\Hid (Kept w wr)) (fun i _=>ss.length - (intOf i).toNat)
  case atStart=>exact ⟨0,[],Nat.zero_le _,rfl,HR,heap_alloc_new w _,zaA _ _⟩
  case round =>
   obtain ⟨k,ks,hk,rfl,HP,HM,HKR⟩:=hrel;by_cases hlt:k<ss.length
   ·obtain ⟨s,hx⟩:∃ x,ss[k]? = some x:=⟨_,List.getElem?_eq_getElem hlt⟩;have HSM:=Hd (hs s (List.mem_of_getElem? hx));have HAT:=Hd (zDi ss ks k s hx);rw[HAT.out] at HP;obtain ⟨a',c',hv',hc',h3⟩:=HV.out;obtain ⟨rfl,hdead,rfl⟩:=Value.slice.inj hv';clear hdead hc';obtain ⟨g,o,rfl,hg',hcc⟩:=h3 (by omega);obtain ⟨vA,vE,vF,t0,t1,t2,t3,t4,pA,pE,pF⟩:=hcc k s hx;have d0:=(HKR.out.cell (p:=⟨g,_,none⟩) hg').trans t0;have d1:=(HKR.out.cell (p:=⟨g,_,none⟩) hg').trans t1;have d2:=(HKR.out.cell (p:=⟨g,_,none⟩) hg').trans t2;have d3:=(HKR.out.cell (p:=⟨g,_,none⟩) hg').trans t3;have d4:=(HKR.out.cell (p:=⟨g,_,none⟩) hg').trans t4;clear t0 t1 t2 t3 t4;have hg2:g<wr.heap.size:=Nat.lt_of_lt_of_le hg' HKR.out.size;have HPS:=Hd (And.intro pA (And.intro pE pF));obtain ⟨aA,cA,rfl,zA,zA'⟩:=pA;obtain ⟨aE,cE,rfl,zE,zE'⟩:=pE;obtain ⟨aF,cF,rfl,zF,zF'⟩:=pF;clear zA zA' zE zE' zF zF';have HBK:=Hd (Blk.new wr 50 #[.string (bs s.key),.string (bs s.type),.slice aA s.author.length cA,.slice aE s.editor.length cE,.slice aF s.fields.length cF]);have HNT:=Hd (fun w=>zi6 s.type w HSM.out.2.2.2.2.2.2.2);have HNK:=Hd (fun w=>zi6 s.key w HSM.out.2.2.2.2.2.2.1);have HCS:=Hd (fun w hg pA pE pF=>zyA s (.slice aA s.author.length cA) (.slice aE s.editor.length cE) (.slice aF s.fields.length cF) w hg pA pE pF HSM.out.1 HSM.out.2.1 HSM.out.2.2.1 HSM.out.2.2.2.1 HSM.out.2.2.2.2.1 HSM.out.2.2.2.2.2.1);clear hcc h3 hv' hx HAT;go_wp2_with fail;refine (HNT.out _).mono ?_;rintro e w3 ⟨rfl,hk3⟩;have e0:w3.cell? ⟨wr.heap.size,0,none⟩=some (.string (bs s.key)):=(HBK.out.kept hk3).cell 0 _ rfl;have HBK3:=Hd (HBK.out.kept hk3);have HK3:=Hd ((zaA wr _).trans hk3);have z3:=HBK3.out.lt;clear hk3 d0 d1 d2 d3 d4 hg' hg2;cases hnt:zg7 s.type
    ·rw[if_pos (.inl hnt)] at HP;go_wp2_with fail;go_ret;exact ⟨by rw[HP.out];rfl,HKR.out.trans HK3.out⟩
    go_wp2_with fail;refine (HNK.out _).mono ?_;rintro e w4 ⟨rfl,hk4⟩;have f0:w4.cell? ⟨wr.heap.size,0,none⟩=some (.string (bs s.key)):=(HBK3.out.kept hk4).cell 0 _ rfl;have HBK4:=Hd (HBK3.out.kept hk4);have HK4:=Hd (HK3.out.trans hk4);have HM4:=Hd (HM.out.kept HK4.out);clear hk4 e0;cases hnk:zg7 s.key
    ·rw[if_pos (.inr hnk)] at HP;go_wp2_with fail;go_ret;exact ⟨by rw[HP.out];rfl,HKR.out.trans HK4.out⟩
    rw[if_neg (by simp [hnt,hnk])] at HP;have lk:=zvI w4 w.heap.size ks s.key HM4.out;cases hct:ks.contains s.key
    case true =>
     rw[if_pos hct] at HP;rw[hct] at lk;go_wp2_with fail;go_ret;exact ⟨by rw[HP.out];rfl,HKR.out.trans HK4.out⟩
    rw[if_neg (by rw[hct];simp)] at HP;rw[hct] at lk;have ins:=zEg w4 w.heap.size ks s.key HM4.out (by simpa using hct);have hne:wr.heap.size≠w.heap.size:=(by have:=HM.out.lt;omega);have HO5:=Hd (zdQ w4 w.heap.size (ks ++ [s.key]));have HM5:=Hd (zgS w4 w.heap.size (ks ++ [s.key]) HM4.out.lt);have HB5:Hid (Blk (zoK w4 w.heap.size (ks ++ [s.key])) wr.heap.size 50 #[.string (bs s.key),.string (bs s.type),.slice aA s.author.length cA,.slice aE s.editor.length cE,.slice aF s.fields.length cF]):=(HO5.out.block _ HBK4.out.lt hne).trans HBK4.out;have HK5:Hid (Kept w (zoK w4 w.heap.size (ks ++ [s.key]))):=(HKR.out.trans HK4.out).trans' (HO5.out.below (HKR.out.trans HK4.out).size (fun i h=>by omega));generalize zoK w4 w.heap.size (ks ++ [s.key])=w5 at *;have g0:=HB5.out.cell 0 _ rfl;have g1:=HB5.out.cell 1 _ rfl;have g2:=HB5.out.cell 2 _ rfl;have g3:=HB5.out.cell 3 _ rfl;have g4:=HB5.out.cell 4 _ rfl;go_wp2_with fail;refine (HCS.out _ (hg.kept HK5.out) (HPS.out.1.kept HK5.out) (HPS.out.2.1.kept HK5.out) (HPS.out.2.2.kept HK5.out)).mono ?_;rintro e w6 ⟨rfl,hk6⟩;have HK6:=Hd (HK5.out.trans hk6);have HM6:=Hd (HM5.out.kept hk6);clear hk6 g0 g1 g2 g3 g4;generalize zCT s=E at *;by_cases hE:E=0
    ·subst hE;rw[if_neg (by simp)] at HP;go_wp2_with fail;go_roundw
     case rel=>exact ⟨k+1,ks ++ [s.key],by omega,by go_num,HP,HM6,HK6⟩
     case measure=>simp [intOf];omega
    ·rw[if_pos hE] at HP;go_wp2_with fail;go_ret;exact ⟨by rw[HP.out];rfl,HK6.out⟩
   ·obtain rfl:k=ss.length:=(by omega);rw[List.drop_length] at HP;have HZ:Hid (R=0):=HP.out;go_wp2_with fail;go_ret;exact ⟨by rw[HZ.out];rfl,HKR.out⟩
end Go.Proofs.YtmcoomlkbgiboaaGreatDoor
