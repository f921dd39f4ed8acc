/- begin of publisherref30. Conditions: lengths. -/
import Derived.Test.YtmcoomlkbgiboaaGreatDoorW44
import Derived.Test.YtmcoomlkbgiboaaGreatDoorW04
import Derived.Test.YtmcoomlkbgiboaaGreatDoorW08
import Derived.Test.YtmcoomlkbgiboaaGreatDoorW42
import Derived.Test.YtmcoomlkbgiboaaGreatDoorW06
import Derived.Test.YtmcoomlkbgiboaaGreatDoorW13
set_option linter.all false
set_option maxRecDepth 100000
set_option maxHeartbeats 6400000
namespace Go.Proofs.YtmcoomlkbgiboaaGreatDoor
open Go.RowKit
theorem zAL (ss:List SrcT) (k:Bs):(zhM ss k).isSome=(ss.map (·.key)).contains k:=by
 unfold zhM;rw[Bool.eq_iff_iff,List.find?_isSome,List.contains_iff_mem];simp only[List.mem_map,beq_iff_eq]
theorem ztD (l:Bs) (w:World) (hs:l.length<=1100000):Calls Tryz.prog 205 #[.string (bs l)] w fun e w'=>e=.returned (.int .i64 (zbQ l))/\w=w':=by
 go_enter Tryz.func205,Tryz.ntmps205;go_wp2_with fail
 go_loop [3] (fun i=>∃ k:Nat,k<=l.length/\i=.int .i64 k/\Hid (∀ j (hj:j<l.length),j<k->l[j]=32)) (fun i=>l.length - (intOf i).toNat)
 case atStart=>exact ⟨0,Nat.zero_le _,rfl,fun j hj h=>by omega⟩
 case round =>
  obtain ⟨k,hk,rfl,HA⟩:=hrel;by_cases hlt:k<l.length
  ·have i0:=zb6 (P:=Tryz.prog) (t:=9) Tryz.underlying9 l k hlt k rfl;have HC:Hid (at8 l k=32↔l[k]=32):=(by show _↔_;rw[za7 l k hlt];exact zcZ _ 32 (by decide));by_cases hb:at8 l k=32
   ·have HN:Hid (∀ j (hj:j<l.length),j<k+1->l[j]=32):=by
     intro j hj hjk;by_cases q:j<k
     ·exact HA.out j hj q
     ·obtain rfl:j=k:=(by omega);exact HC.out.1 hb
    have hb':(at8 l k == 32)=true:=(by simpa using hb);generalize at8 l k=b at *;clear hb HC HA;go_wp2_with fail
    go_round
    case rel=>exact ⟨k+1,by omega,by go_num,HN.out⟩
    case measure=>simp [intOf];omega
   ·have HF:Hid (zbQ l=k):=zhY l k hk HA.out (fun _ q=>hb (HC.out.2 q));have hb':(at8 l k == 32)=false:=(by simpa using hb);generalize at8 l k=b at *;clear hb HC HA;go_wp2_with fail;go_ret;exact ⟨zaK (by rw[HF.out]),rfl⟩
  ·have HF:Hid (zbQ l=k):=zhY l k hk HA.out (fun h=>absurd h hlt);clear HA;go_wp2_with fail;go_ret;exact ⟨zaK (by rw[HF.out]),rfl⟩
theorem zAM (l:Bs) (w:World) (hs:l.length<=1100000):Calls Tryz.prog 157 #[.string (bs l)] w fun e w'=>e=.returned (.string (bs (zn7 l)))/\w=w':=by
 have hil:=zlE l;have HI:=Hd (fun w=>ztD l w hs);have sl:=zeD (P:=Tryz.prog) (t:=9) Tryz.underlying9 l (zbQ l) hil (zbQ l) rfl _ rfl;have HT:Hid (zn7 l=zn6 (l.drop (zbQ l))):=rfl;have htl:(l.drop (zbQ l)).length<=1100000:=(by simp;omega);generalize l.drop (zbQ l)=t at *;generalize zbQ l=n0 at *;go_enter Tryz.func157,Tryz.ntmps157;go_wp2_with fail;refine (HI.out _).mono ?_;rintro e w' ⟨rfl,rfl⟩;go_wp2_with fail;clear sl;simp only[zd4]
 go_loop [0] (fun s=>∃ n:Nat,n<=t.length/\s=.string (bs (t.take n))/\Hid (∀ b∈t.drop n,b=32)) (fun s=>match s with|.string b=>b.size|_=>0)
 case atStart=>exact ⟨t.length,Nat.le_refl _,by rw[List.take_of_length_le (Nat.le_refl _)],fun b hb=>by rw[List.drop_of_length_le (Nat.le_refl _)] at hb;cases hb⟩
 case round =>
  obtain ⟨n,hn,rfl,HA⟩:=hrel;have hlen:(t.take n).length=n:=(by simp;omega);have HLEN:=Hd hlen;by_cases h0:n=0
  ·subst h0;have HF:Hid (zn6 t=t.take 0):=zkH t 0 (by omega) HA.out (fun h=>by omega);clear HA hlen;simp only[List.take_zero];go_wp2_with fail;go_ret;exact ⟨zc7 (by rw[HT.out,HF.out];rfl),rfl⟩
  ·have hlt:n - 1<(t.take n).length:=(by omega);have i0:=zb6 (P:=Tryz.prog) (t:=9) Tryz.underlying9 (t.take n) (n - 1) hlt ((t.take n).length - 1) (by omega);have su:=zhR (P:=Tryz.prog) (t:=9) Tryz.underlying9 (t.take n) (n - 1) (by omega) ((t.take n).length - 1) (by omega) (t.take (n - 1)) (by rw[List.take_take];congr 1;omega);have hn1:n - 1<t.length:=(by omega);have HC:Hid (at8 (t.take n) (n - 1)=32↔t[n - 1]'hn1=32):=by
    show _↔_;rw[za7 _ _ hlt,List.getElem_take];exact zcZ _ 32 (by decide)
   have hpos:0<(t.take n).length:=(by omega);have hne:¬ t.take n=[]:=(by intro q;rw[q] at hpos;simp at hpos);have hle:(t.take n).length<=1100000:=(by omega);generalize hx:at8 (t.take n) (n - 1)=b at *;clear hx hlen;by_cases hb:b=32
   ·have HN:Hid (∀ b∈t.drop (n - 1),b=32):=by
     intro c hc;have e:t.drop (n - 1)=t[n - 1]'(by omega) :: t.drop n:=by
      rw[List.drop_eq_getElem_cons (by omega)];congr 2;omega
     rw[e] at hc;rcases List.mem_cons.1 hc with h|h
     ·rw[h];exact HC.out.1 hb
     ·exact HA.out c h
    have HM:Hid ((t.take (n - 1)).length<(t.take n).length):=(by show _<_;simp;omega);have hb':(b == 32)=true:=(by simpa using hb);clear hb HC HA;generalize hx:t.take n=s at *;clear hx;have hy1:(s == [])=false:=(by simpa using hne);have hy2:(s != [])=true:=(by simpa using hne);have hy3:(List.length s == 0)=false:=(by simpa using hne);go_wp2_with fail
    go_round
    case rel=>exact ⟨n - 1,by omega,rfl,HN.out⟩
    case measure=>simpa using HM.out
   ·have HF:Hid (zn6 t=t.take n):=zkH t n hn HA.out (fun _ q=>hb (HC.out.2 q));have hb':(b == 32)=false:=(by simpa using hb);clear hb HC HA;generalize hx:t.take n=s at *;clear hx;have hy1:(s == [])=false:=(by simpa using hne);have hy2:(s != [])=true:=(by simpa using hne);have hy3:(List.length s == 0)=false:=(by simpa using hne);go_wp2_with fail;go_ret;exact ⟨zc7 (by rw[HT.out,HF.out]),rfl⟩
theorem zAN (l:Bs) (w:World) (hs:l.length<=1000000000) :
  Calls Tryz.prog 156 #[.string (bs l)] w fun e w'=>e=.returned (.bool (zd6 l))/\Kept w w':=by
 have HV:=Hd (fun w=>ziX (bs l) w hs);have HL:Hid (zd6 l=(zbG (bs l) && !(l.any (fun b=>b == 10)))):=(by show _=_;rw[<- zjQ];rfl);generalize zbG (bs l)=v at *;go_enter Tryz.func156,Tryz.ntmps156;go_wp2_with fail
 go_loop [3] (fun i=>∃ k:Nat,k<=l.length/\i=.int .i64 k/\Hid (l.any (fun b=>b == 10)=(l.drop k).any (fun b=>b == 10))) (fun i=>l.length - (intOf i).toNat)
 case atStart=>exact ⟨0,Nat.zero_le _,rfl,zsG _ _⟩
 case round =>
  obtain ⟨k,hk,rfl,HA⟩:=hrel;by_cases hlt:k<l.length
  ·have i0:=zb6 (P:=Tryz.prog) (t:=9) Tryz.underlying9 l k hlt k rfl;have HN:=Hd (zkG (fun b=>b == 10) l k hlt);have HC:Hid (at8 l k=10↔l[k]=10):=(by show _↔_;rw[za7 l k hlt];exact zcZ _ 10 (by decide));generalize l[k]=x at *;generalize at8 l k=b at *;by_cases hb:b=10
   ·have HX:Hid (x=10):=HC.out.1 hb;go_wp2_with fail;go_ret;exact ⟨zaH (by rw[HL.out,HA.out,HN.out,HX.out];simp),Kept.refl _⟩
   ·have HX:Hid ((x == 10)=false):=(by show _=_;rw[beq_eq_false_iff_ne];exact fun q=>hb (HC.out.2 q));have hb':(b == 10)=false:=(by simpa using hb);clear hb;go_wp2_with fail
    go_round
    case rel=>exact ⟨k+1,by omega,by go_num,by show _=_;rw[HA.out,HN.out];simp only[HX.out,Bool.false_or]⟩
    case measure=>simp [intOf];omega
  ·have HZ:Hid (l.any (fun b=>b == 10)=false):=(by show _=_;rw[HA.out,List.drop_of_length_le (by omega)];rfl);go_wp2_with fail;refine (HV.out _).mono ?_;rintro e w1 ⟨rfl,hk1⟩;have HK1:=Hd hk1;clear hk1;go_wp2_with fail;go_ret;exact ⟨zaH (by rw[HL.out,HZ.out];simp),HK1.out⟩
theorem zj1 (v:Value) (ps:List P4) (w:World) (hv:Perss w v ps) (hs:SmallP ps) (hl:ps.length<=1100000) :
  Calls Tryz.prog 116 #[v] w fun e w'=>e=.returned (.int .i64 (zdL ps))/\Kept w w':=by
 have HV:=Hd hv;obtain ⟨R,HRR⟩:∃ R,Hid (zdL ps=R):=⟨_,rfl⟩;rw[HRR.out];obtain ⟨a,c,rfl,hc,hh⟩:=hv;clear hh;go_enter Tryz.func116,Tryz.ntmps116;go_wp2_with fail;go_loopw [9] (fun i wr=>∃ k:Nat,k<=ps.length/\i=.int .i64 k/\Hid (R=zdL (ps.drop k))/\Hid (Kept w wr)) (fun i _=>ps.length - (intOf i).toNat)
 case atStart=>exact ⟨0,Nat.zero_le _,rfl,HRR.out.symm,Kept.refl _⟩
 case round =>
  obtain ⟨k,hk,rfl,HP,HKR⟩:=hrel;by_cases hlt:k<ps.length
  ·obtain ⟨p,hx⟩:∃ x,ps[k]? = some x:=⟨_,List.getElem?_eq_getElem hlt⟩;have HSM:=Hd (hs p (List.mem_of_getElem? hx));have HAT:=Hd (zoF ps k p hx);rw[HAT.out] at HP;obtain ⟨a',c',hv',hc',h3⟩:=HV.out.kept HKR.out;obtain ⟨rfl,hdead,rfl⟩:=Value.slice.inj hv';clear hdead hc';obtain ⟨g,o,rfl,hg',hcc⟩:=h3 (by omega);obtain ⟨d0,d1,d2,d3⟩:=hcc k p hx;obtain ⟨pf,pg,pp,pz⟩:=p;simp only at d0 d1 d2 d3 HSM HP;have HT:=Hd (fun w=>zxX pf pg pp pz w (by have:=HSM.out;omega));clear hcc h3 hv' hx HAT;generalize zeX pf pg pp pz=E at *;generalize zf8 pf pg pp pz=X at *;go_wp2_with fail;refine (HT.out _).mono ?_;rintro e w3 ⟨rfl,hk3⟩;have HK3:=Hd ((HKR.out.trans (zaA _ _)).trans hk3);clear hk3 d0 d1 d2 d3 hg';by_cases hE:E=0
   ·subst hE;rw[if_neg (by simp)] at HP;go_wp2_with fail;go_roundw
    case rel=>exact ⟨k+1,by omega,by go_num,HP,HK3⟩
    case measure=>simp [intOf];omega
   ·rw[if_pos hE] at HP;go_wp2_with fail;go_ret;exact ⟨by rw[HP.out];rfl,HK3.out⟩
  ·obtain rfl:k=ps.length:=(by omega);rw[List.drop_length] at HP;have HZ:Hid (R=0):=HP.out;go_wp2_with fail;go_ret;exact ⟨by rw[HZ.out];rfl,HKR.out⟩
theorem zCZ (ps:List Pr) (k:Bs):(zbC ps k).isSome=zhZ ps k:=by
 unfold zbC zhZ;rw[Option.isSome_map,Bool.eq_iff_iff,List.find?_isSome,List.any_eq_true]
theorem zw3 (fs:List Pr) (x:Bs) (m k:Nat) (q:Pr) (h:fs[m]? = some q) (hm:m<k) (hq:(q.1 == x)=true):zhZ (fs.take k) x=true:=by
 unfold zhZ;rw[List.any_eq_true];refine ⟨q,?_,hq⟩;exact List.mem_of_getElem? (i:=m) (by rw[List.getElem?_take,if_pos hm];exact h)
theorem ztE (v:Value) (fs:List Pr) (w:World) (hv:Prs w v fs) (hs:SmallF fs) (hl:fs.length<=1100000) :
  Calls Tryz.prog 117 #[v] w fun e w'=>e=.returned (.int .i64 (zoE [] fs))/\Kept w w':=by
 have HV:=Hd hv;obtain ⟨R,HRR⟩:∃ R,Hid (zoE [] fs=R):=⟨_,rfl⟩;rw[HRR.out];obtain ⟨a,c3,rfl,hc,hh⟩:=hv;clear hh;go_enter Tryz.func117,Tryz.ntmps117;go_wp2_with fail;go_loopw [8] (fun i wr=>∃ k:Nat,k<=fs.length/\i=.int .i64 k/\Hid (R=zoE (fs.take k) (fs.drop k))/\Hid (Kept w wr)) (fun i _=>fs.length - (intOf i).toNat)
 case atStart=>exact ⟨0,Nat.zero_le _,rfl,HRR.out.symm,Kept.refl _⟩
 case round =>
  obtain ⟨k,hk,rfl,HP,HKR⟩:=hrel;by_cases hlt:k<fs.length
  ·obtain ⟨p,hx⟩:∃ x,fs[k]? = some x:=⟨_,List.getElem?_eq_getElem hlt⟩;obtain ⟨hsm1,hsm2⟩:=hs p (List.mem_of_getElem? hx);have HAT:=Hd (zyF fs k p hx);rw[HAT.out] at HP;have HPR:=Hd (HV.out.kept HKR.out);obtain ⟨a',c',hv',hc',h3'⟩:=HPR.out;obtain ⟨rfl,hdead,rfl⟩:=Value.slice.inj hv';clear hdead hc';obtain ⟨g,o,rfl,hg',hcc⟩:=h3' (by omega);have HCC:=Hd hcc;obtain ⟨d0,d1⟩:=hcc k p hx;obtain ⟨x,y⟩:=p;simp only at d0 d1 hsm1 hsm2 HP;have HN:=Hd (fun w=>zmL x w hsm1);have HLN:=Hd (fun w=>zAN y w (by omega));have HT:=Hd (fun w=>zAM y w hsm2);have HBK:=Hd (Blk.new wr 62 #[.string (bs x),.string (bs y)]);have HE1:Hid (zmY (fs.take k) (x,y)=if (zc0 x=false\/x=[97,117,116,104,111,114])\/x=[101,100,105,116,111,114] then 6 else if ((y=[]\/zbG (bs y)=false)\/y.contains 10=true)\/zn7 y≠y then 17 else if zhZ (fs.take k) x=true then 7 else 0):=rfl;have HFO:=Hd (fun m q h1 h2 h3=>zw3 fs x m k q h1 h2 h3);have HHT:=Hd (fun m q h=>zpX fs x m q h);have HLB:Hid (zd6 y=(zbG (bs y) && !(y.contains 10))):=rfl;obtain ⟨E,HE⟩:∃ E,Hid (zmY (fs.take k) (x,y)=E):=⟨_,rfl⟩;rw[HE.out] at HP HE1;generalize zc0 x=nb at *;generalize zn7 y=ty at *;generalize zbG (bs y)=vb at *;generalize y.contains 10=cb at *;generalize zd6 y=lb at *;clear hcc h3' hv' hx HAT HE;go_wp2_with fail;refine (HN.out _).mono ?_;rintro e w7 ⟨rfl,hk7⟩;have hgr:g<wr.heap.size:=hg';have HB7:=Hd (HBK.out.kept hk7);have HX7:=Hd ((zaA wr _).trans hk7);have HK7:=Hd (HKR.out.trans HX7.out);generalize hBB:wr.heap.size=B at *;have HBB:=Hd hBB;clear hBB;have e0:w7.cell? ⟨B,0,none⟩=some (.string (bs x)):=HB7.out.cell 0 _ rfl;have z7:=HB7.out.lt;clear hk7 d0 d1 hg';cases nb
   ·rw[if_pos (.inl (.inl rfl))] at HE1;obtain rfl:E=6:=HE1.out;rw[if_pos (by decide)] at HP;go_wp2_with fail;go_ret;exact ⟨by rw[HP.out];rfl,HK7.out⟩
   by_cases hxa:x=[97,117,116,104,111,114]
   ·rw[if_pos (.inl (.inr hxa))] at HE1;obtain rfl:E=6:=HE1.out;rw[if_pos (by decide)] at HP;subst hxa;go_wp2_with fail;go_ret;exact ⟨by rw[HP.out];rfl,HK7.out⟩
   by_cases hxe:x=[101,100,105,116,111,114]
   ·rw[if_pos (.inr hxe)] at HE1;obtain rfl:E=6:=HE1.out;rw[if_pos (by decide)] at HP;subst hxe;go_wp2_with fail;go_ret;exact ⟨by rw[HP.out];rfl,HK7.out⟩
   rw[if_neg (by simp [hxa,hxe])] at HE1;have hxa':(x == [97,117,116,104,111,114])=false:=(by simpa using hxa);have hxe':(x == [101,100,105,116,111,114])=false:=(by simpa using hxe);clear hxa hxe;have HC:Hid (∀ w',Kept w7 w'->w'.cell? ⟨B,1,none⟩=some (.string (bs y))/\B<w'.heap.size/\Kept w7 w'):=fun w' h=>⟨(HB7.out.kept h).cell 1 _ rfl,(HB7.out.kept h).lt,h⟩;have hKd:Kept w7 w7.drew:=zaB w7 1;by_cases hy:y=[]
   ·rw[if_pos (.inl (.inl (.inl hy)))] at HE1;obtain rfl:E=17:=HE1.out;rw[if_pos (by decide)] at HP;subst hy;have e1:w7.cell? ⟨B,1,none⟩=some (.string (bs [])):=HB7.out.cell 1 _ rfl;go_wp2_with fail
    go_quiet (fail)
    go_wp2_with fail;go_ret;exact ⟨by rw[HP.out];rfl,HK7.out.trans (zaB _ _)⟩
   have hy':(y == [])=false:=(by simpa using hy);cases hlb:lb
   ·have hbad:(y=[]\/vb=false)\/cb=true:=by
     have h:=HLB.out;rw[hlb] at h;cases vb
     ·exact .inl (.inr rfl)
     ·cases cb
      ·cases h
      ·exact .inr rfl
    rw[if_pos (.inl hbad)] at HE1;obtain rfl:E=17:=HE1.out;rw[if_pos (by decide)] at HP;subst hlb;clear hy HLB hbad;have e1:w7.cell? ⟨B,1,none⟩=some (.string (bs y)):=HB7.out.cell 1 _ rfl;go_wp2_with fail
    first|(go_region_with (go_at_call 156;refine (HLN.out _).mono ?_;rintro e w8 ⟨rfl,hk8⟩;have k8:=Kept.trans hKd hk8;clear hk8))|fail
    all_goals
     go_wp2_with fail;go_ret;exact ⟨by rw[HP.out];rfl,HK7.out.trans k8⟩
   subst hlb;have hvb:vb=true/\cb=false:=by
    have h:=HLB.out;cases vb <;> cases cb <;> simp at h ⊢
   obtain ⟨rfl,rfl⟩:=hvb;by_cases hty:ty=y
   case neg =>
    rw[if_pos (.inr hty)] at HE1;obtain rfl:E=17:=HE1.out;rw[if_pos (by decide)] at HP;have hty':(ty == y)=false:=(by simpa using hty);have hty2:(ty != y)=true:=(by simpa using hty);clear hty hy HLB;go_wp2_with fail
    go_region_held3 (fun w'=>w'.cell? ⟨B,1,none⟩=some (.string (bs y))/\B<w'.heap.size/\Kept w7 w')
     ((refine HC.out _ ?_;first|assumption|exact Kept.refl _))
     (first|(go_at_call 156;refine (HLN.out _).mono ?_;rintro e w8 ⟨rfl,hk8⟩;have k8:=Kept.trans hKd hk8;clear hk8)|(go_at_call 157;refine (HT.out _).mono ?_;rintro e w9 ⟨rfl,rfl⟩))
    all_goals
     go_wp2_with fail;go_ret;exact ⟨by rw[HP.out];rfl,HK7.out.trans k8⟩
   subst hty;rw[if_neg (by simp [hy])] at HE1;clear hy HLB;go_wp2_with fail
   go_region_held3 (fun w'=>w'.cell? ⟨B,1,none⟩=some (.string (bs ty))/\B<w'.heap.size/\Kept w7 w')
    ((refine HC.out _ ?_;first|assumption|exact Kept.refl _))
    (first|(go_at_call 156;refine (HLN.out _).mono ?_;rintro e w8 ⟨rfl,hk8⟩;have k8:=Kept.trans hKd hk8;clear hk8)|(go_at_call 157;refine (HT.out _).mono ?_;rintro e w9 ⟨rfl,rfl⟩))
   all_goals
    have HX8:=Hd (HX7.out.trans k8);have HK8:=Hd (HK7.out.trans k8);have HB8:=Hd (HB7.out.kept k8);clear e0 z7 HC hKd k8 HT HLN HN;go_wp2_with fail;generalize wr=wo at *;go_loopw [5] (fun j w2=>∃ m:Nat,m<=k/\j=.int .i64 m/\Hid (zhZ (fs.take m) x=false)/\Hid (Kept w8 w2)) (fun j _=>k - (intOf j).toNat)
    case atStart=>exact ⟨0,Nat.zero_le _,rfl,rfl,Kept.refl _⟩
    case round =>
     obtain ⟨m,hm,rfl,HA,HKM⟩:=hrel;by_cases hmk:m<k
     ·obtain ⟨q,hq⟩:∃ q,fs[m]? = some q:=⟨_,List.getElem?_eq_getElem (by omega)⟩;obtain ⟨q0,q1⟩:=HCC.out m q hq;have f0:=((HX8.out.trans HKM.out).cell (p:=⟨g,_,none⟩) (by have:=HBB.out;simp only;omega)).trans q0;have e0:wr.cell? ⟨B,0,none⟩=some (.string (bs x)):=(HB8.out.kept HKM.out).cell 0 _ rfl;have HHM:=Hd (HHT.out m q hq);have HFF:=Hd (HFO.out m q hq hmk);have i1:(0:Int)<=(m:Int):=(by omega);have i2:(m:Int)<(fs.length:Int):=(by omega);have zg:g<wr.heap.size:=(by have:=HBB.out;have:=(HX8.out.trans HKM.out).size;omega);have zB:B<wr.heap.size:=(HB8.out.kept HKM.out).lt;clear q0 q1 hq;obtain ⟨qa,qb⟩:=q;simp only at f0 HHM HFF;cases hqx:(qa == x)
      ·have HM1:Hid (zhZ (fs.take (m+1)) x=false):=by
        show _=_;rw[HHM.out,HA.out,hqx];rfl
       go_wp2_with fail
       go_quiet (fail)
       go_wp2_with fail;go_roundw
       case rel=>exact ⟨m+1,by omega,by go_num,HM1,HKM.out.trans (zaB _ _)⟩
       case measure=>simp [intOf];omega
      ·rw[if_pos (HFF.out hqx)] at HE1;obtain rfl:E=7:=HE1.out;rw[if_pos (by decide)] at HP;go_wp2_with fail
       go_quiet (fail)
       go_wp2_with fail;go_ret;exact ⟨by rw[HP.out];rfl,(HK8.out.trans HKM.out).trans (zaB _ _)⟩
     ·obtain rfl:m=k:=(by omega);rw[if_neg (by rw[HA.out];simp)] at HE1;obtain rfl:E=0:=HE1.out;rw[if_neg (by simp)] at HP;go_wp2_with fail;go_roundw
      case rel=>exact ⟨m+1,by omega,by go_num,HP,HK8.out.trans HKM.out⟩
      case measure=>simp [intOf];omega
  ·obtain rfl:k=fs.length:=(by omega);rw[List.drop_length] at HP;have HZ:Hid (R=0):=HP.out;go_wp2_with fail;go_ret;exact ⟨by rw[HZ.out];rfl,HKR.out⟩
end Go.Proofs.YtmcoomlkbgiboaaGreatDoor
