/- Check of collate. Conditions: lengths. -/
import Derived.Test.YtmcoomlkbgiboaaGreatDoorW17
import Derived.Test.YtmcoomlkbgiboaaGreatDoorW15
import Derived.Test.YtmcoomlkbgiboaaGreatDoorW16
set_option linter.all false
set_option maxRecDepth 100000
set_option maxHeartbeats 6400000
namespace Go.Proofs.YtmcoomlkbgiboaaGreatDoor
open Go.RowKit
theorem Strs.cell_of {w:World} {a:Option Addr} {n c:Nat} {xs:List Bs} (h:Strs w (.slice a n c) xs) (k:Nat) (x:Bs) (hx:xs[k]? = some x):∃ g o,a=some ⟨g,o,none⟩/\g<w.heap.size/\w.cell? ⟨g,o+k,none⟩=some (.string (bs x))/\n=xs.length/\xs.length<=c:=by
 obtain ⟨a',c',hv,hc,h3⟩:=h;obtain ⟨rfl,rfl,rfl⟩:=Value.slice.inj hv;obtain ⟨hk,_⟩:=List.getElem?_eq_some_iff.1 hx;obtain ⟨g,o,ha,hg,hcell⟩:=h3 (by omega);exact ⟨g,o,ha,hg,hcell k x hx,rfl,hc⟩
theorem Prs.cell_of {w:World} {a:Option Addr} {n c:Nat} {ps:List Pr} (h:Prs w (.slice a n c) ps) (k:Nat) (p:Pr) (hx:ps[k]? = some p):∃ g o,a=some ⟨g,o,none⟩/\g<w.heap.size/\w.cell? ⟨g,o+k * 2,none⟩=some (.string (bs p.1))/\w.cell? ⟨g,o+k * 2+1,none⟩=some (.string (bs p.2))/\n=ps.length/\ps.length<=c:=by
 obtain ⟨a',c',hv,hc,h3⟩:=h;obtain ⟨rfl,rfl,rfl⟩:=Value.slice.inj hv;obtain ⟨hk,_⟩:=List.getElem?_eq_some_iff.1 hx;obtain ⟨g,o,ha,hg,hcell⟩:=h3 (by omega);obtain ⟨h0,h1⟩:=hcell k p hx;exact ⟨g,o,ha,hg,h0,h1,rfl,hc⟩
theorem Strs.form {w:World} {v:Value} {xs:List Bs} (h:Strs w v xs):∃ a c,v=.slice a xs.length c/\xs.length<=c:=by
 obtain ⟨a,c,hv,hc,_⟩:=h;exact ⟨a,c,hv,hc⟩
theorem Prs.form {w:World} {v:Value} {ps:List Pr} (h:Prs w v ps):∃ a c,v=.slice a ps.length c/\ps.length<=c:=by
 obtain ⟨a,c,hv,hc,_⟩:=h;exact ⟨a,c,hv,hc⟩
theorem Ints.form {w:World} {v:Value} {ps:List Int} (h:Ints w v ps):∃ a c,v=.slice a ps.length c/\ps.length<=c:=by
 obtain ⟨a,c,hv,hc,_⟩:=h;exact ⟨a,c,hv,hc⟩
theorem Ints.cell_of {w:World} {a:Option Addr} {n c:Nat} {xs:List Int} (h:Ints w (.slice a n c) xs) (k:Nat) (x:Int) (hx:xs[k]? = some x):∃ g o,a=some ⟨g,o,none⟩/\g<w.heap.size/\w.cell? ⟨g,o+k,none⟩=some (.int .i64 x):=by
 obtain ⟨a',c',hv,hc,h3⟩:=h;obtain ⟨rfl,rfl,rfl⟩:=Value.slice.inj hv;obtain ⟨hk,_⟩:=List.getElem?_eq_some_iff.1 hx;obtain ⟨g,o,ha,hg,hcell⟩:=h3 (by omega);exact ⟨g,o,ha,hg,hcell k x hx⟩
theorem zb7 {m:Nat} {a b c:World} (h:Kept a b) (k:Only (fun i=>i=m) b c) (hm:a.heap.size<=m):Kept a c:=h.trans' (k.below h.size (fun i e=>e ▸ hm))
def zgS (ps:List Pc) (key:Bs):List Int:=(ps.filter fun p=>p.fld && (!(p.txt == key) && !(p.grp == 0))).map fun p=>(p.grp:Int)
def zf1 (ps:List Pc) (key:Bs):Bool:=ps.any fun p=>p.fld && ((p.txt == key) && !((zgS ps key).contains (p.grp:Int)))
theorem zyQ (ps:List Pc) (key:Bs) (p:Pc):zgS (ps ++ [p]) key=zgS ps key ++ (if (p.fld && (!(p.txt == key) && !(p.grp == 0)))=true then [(p.grp:Int)] else []):=by
 unfold zgS;rw[List.filter_append,List.map_append];by_cases h:(p.fld && (!(p.txt == key) && !(p.grp == 0)))=true
 ·rw[if_pos h];simp [h]
 ·rw[if_neg h];simp [h]
theorem zyR (v:Value) (ps:List Pc) (key:Bs) (w:World) (hv:Pcs w v ps) (hl:ps.length<=1000000):Calls Tryz.prog 132 #[v,.string (bs key)] w fun e w'=>e=.returned (.bool (zf1 ps key))/\Kept w w':=by
 have HV:=Hd hv;obtain ⟨a,c,rfl,hc⟩:=hv.form;clear hv;have HTK:Hid (∀ k (hk:k<ps.length),zgS (ps.take (k+1)) key=zgS (ps.take k) key ++ (if (ps[k].fld && (!(ps[k].txt == key) && !(ps[k].grp == 0)))=true then [(ps[k].grp:Int)] else [])):=fun k hk=>by
  rw[List.take_succ_eq_append_getElem hk,zyQ]
 have HF:Hid (∀ k (hk:k<ps.length),(ps[k].fld && ((ps[k].txt == key) && !((zgS ps key).contains (ps[k].grp:Int))))=true->zf1 ps key=true):=fun k hk h =>
  List.any_eq_true.2 ⟨ps[k],List.getElem_mem hk,h⟩
 have HT:Hid ((∀ k (hk:k<ps.length),(ps[k].fld && ((ps[k].txt == key) && !((zgS ps key).contains (ps[k].grp:Int))))=false)->zf1 ps key=false):=fun h=>by
  unfold zf1;rw[List.any_eq_false];intro p hp;obtain ⟨k,hk,e⟩:=List.getElem_of_mem hp;have:=h k hk;rw[e] at this;rw[this];simp
 have HO0:Hid (zgS (ps.take 0) key=[]):=rfl;have HON:Hid (zgS (ps.take ps.length) key=zgS ps key):=(by show _=_;rw[List.take_of_length_le (Nat.le_refl _)]);generalize zf1 ps key=R at *;have mk:=fun w=>run_makeMap (P:=Tryz.prog) 116 w;go_enter Tryz.func132,Tryz.ntmps132;go_wp2_with fail;have HM0:=Hd (MapV.made w);have HK0:=Hd (zaA w (.map #[] 0));generalize w.alloc (.map #[] 0)=w0 at *;obtain ⟨M,HMM⟩:∃ M,Hid (w.heap.size=M):=⟨_,rfl⟩;have hMz:w.heap.size<=M:=(by rw[HMM.out];exact Nat.le_refl _);rw[HMM.out] at HM0 ⊢;go_loopw [13] (fun i wr=>∃ k:Nat,k<=ps.length/\i=.int .i64 k/\Hid (MapV wr M (ze3 (zgS (ps.take k) key)))/\Hid (Kept w wr)) (fun i _=>ps.length - (intOf i).toNat)
 case atStart=>exact ⟨0,Nat.zero_le _,rfl,HM0.out,HK0.out⟩
 case round =>
  obtain ⟨k,hk,rfl,HM,HKR⟩:=hrel;by_cases hlt:k<ps.length
  ·have hx:=List.getElem?_eq_getElem hlt;obtain ⟨g,o,rfl,hg,d0,d1,d2⟩:=(HV.out.kept HKR.out).cell_of k _ hx;have HST:=Hd (HTK.out k hlt);generalize ps[k]=p at *;obtain ⟨x,f,gr⟩:=p;simp only at d0 d1 d2 HST;have up:∀ w',MapV w' M (ze3 (zgS (ps.take k) key))->zgS (ps.take (k+1)) key=zgS (ps.take k) key ++ [(gr:Int)]->(Instr.mapUpdate 116 (.map (some M)) (.int .i64 gr) (.bool true)).run Tryz.prog w'=.ok () (zoB w' M (ze3 (zgS (ps.take (k+1)) key))):=by
    intro w' hm he;rw[he];cases hgv:zdA (ze3 (zgS (ps.take k) key)) (gr:Int) with
    | none =>
     rw[ze4,hgv];exact zEx (P:=Tryz.prog) Tryz.underlying116 Tryz.underlying3 w' _ _ gr (.bool true) hm hgv
    | some u =>
     have hu:u=.bool true:=by
      have:=zsM (zgS (ps.take k) key) gr;rw[hgv] at this
      split at this
      ·exact Option.some.inj this
      ·cases this
     subst hu;rw[ze4,hgv];exact zyB (P:=Tryz.prog) Tryz.underlying116 Tryz.underlying3 w' _ _ gr (.bool true) hm hgv
   have UP:=Hd up;clear hx up;by_cases hc1:(f && (!(x == key) && !(gr == 0)))=true
   ·simp only[Bool.and_eq_true,Bool.not_eq_true'] at hc1;obtain ⟨rfl,h2,h3⟩:=hc1;rw[h2,h3,if_pos (by rfl)] at HST;have h3':((gr:Int) == 0)=false:=by
     rw[beq_eq_false_iff_ne];intro q;rw[beq_eq_false_iff_ne] at h3;omega
    have HM2:=Hd (HM.out.kept (zaA wr (.cells #[.string (bs x),.bool true,.int .i64 gr] 118)));have up:=UP.out _ HM2.out HST.out;have HM3:=Hd (zh3 _ _ (ze3 (zgS (ps.take (k+1)) key)) HM2.out.lt);have HO3:=Hd (zc1 (wr.alloc (.cells #[.string (bs x),.bool true,.int .i64 gr] 118)) M (ze3 (zgS (ps.take (k+1)) key)));have HK3:=Hd (zb7 (HKR.out.trans (zaA wr (.cells #[.string (bs x),.bool true,.int .i64 gr] 118))) HO3.out hMz);go_wp2_with fail;go_roundw
    case rel=>exact ⟨k+1,by omega,by go_num,HM3.out,HK3.out⟩
    case measure=>simp [intOf];omega
   ·have HST2:Hid (zgS (ps.take (k+1)) key=zgS (ps.take k) key):=by
     show _=_;rw[HST.out,if_neg hc1,List.append_nil]
    cases f with
    | false =>
     clear hc1;have HM2:=Hd (HM.out.kept (zaA wr (.cells #[.string (bs x),.bool false,.int .i64 gr] 118)));have HK2:=Hd (HKR.out.trans (zaA wr (.cells #[.string (bs x),.bool false,.int .i64 gr] 118)));rw[<- HST2.out] at HM2;clear UP HM HKR HST;go_wp2_with fail;go_roundw
     case rel=>exact ⟨k+1,by omega,by go_num,HM2.out,HK2.out⟩
     case measure=>simp [intOf];omega
    | true =>
     cases hx1:(x == key) with
     | true =>
      obtain rfl:x=key:=(by simpa using hx1);clear hc1 hx1;have HM2:=Hd (HM.out.kept (zaA wr (.cells #[.string (bs x),.bool true,.int .i64 gr] 118)));have HK2:=Hd (HKR.out.trans (zaA wr (.cells #[.string (bs x),.bool true,.int .i64 gr] 118)));rw[<- HST2.out] at HM2;clear UP HM HKR HST;go_wp2_with fail;go_roundw
      case rel=>exact ⟨k+1,by omega,by go_num,HM2.out,HK2.out⟩
      case measure=>simp [intOf];omega
     | false =>
      have h3:(gr == 0)=true:=by
       rw[hx1] at hc1;simpa using hc1
      obtain rfl:gr=0:=(by simpa using h3);clear hc1 h3;have HM2:=Hd (HM.out.kept (zaA wr (.cells #[.string (bs x),.bool true,.int .i64 (0:Nat)] 118)));have HK2:=Hd (HKR.out.trans (zaA wr (.cells #[.string (bs x),.bool true,.int .i64 (0:Nat)] 118)));rw[<- HST2.out] at HM2;clear UP HM HKR HST;go_wp2_with fail;go_roundw
      case rel=>exact ⟨k+1,by omega,by go_num,HM2.out,HK2.out⟩
      case measure=>simp [intOf];omega
  ·obtain rfl:k=ps.length:=(by omega);rw[HON.out] at HM;have HM1:=Hd HM.out;have HK1:=Hd HKR.out;clear HM HKR HTK HON HO0 hlt;go_wp2_with fail;go_loopw [36] (fun i wr=>∃ k:Nat,k<=ps.length/\i=.int .i64 k/\Hid (∀ j (hj:j<ps.length),j<k->(ps[j].fld && ((ps[j].txt == key) && !((zgS ps key).contains (ps[j].grp:Int))))=false)/\Hid (MapV wr M (ze3 (zgS ps key)))/\Hid (Kept w wr)) (fun i _=>ps.length - (intOf i).toNat)
   case atStart=>exact ⟨0,Nat.zero_le _,rfl,fun j hj h=>by omega,HM1.out,HK1.out⟩
   case round =>
    clear HM1 HK1;obtain ⟨k,hk,rfl,HN,HM,HKR⟩:=hrel;by_cases hlt:k<ps.length
    ·have hx:=List.getElem?_eq_getElem hlt;obtain ⟨g,o,rfl,hg,d0,d1,d2⟩:=(HV.out.kept HKR.out).cell_of k _ hx;have HYES:=Hd (HF.out k hlt);have HNX:Hid ((ps[k].fld && ((ps[k].txt == key) && !((zgS ps key).contains (ps[k].grp:Int))))=false->∀ j (hj:j<ps.length),j<k+1->(ps[j].fld && ((ps[j].txt == key) && !((zgS ps key).contains (ps[j].grp:Int))))=false):=by
      intro h j hj hjk;rcases Nat.lt_or_ge j k with q|q
      ·exact HN.out j hj q
      ·obtain rfl:j=k:=(by omega);exact h
     clear hx;generalize ps[k]=p at d0 d1 d2 HYES HNX;obtain ⟨x,f,gr⟩:=p;simp only at d0 d1 d2 HYES HNX;cases f with
     | false =>
      have HNO:=Hd (HNX.out rfl);have HM2:=Hd (HM.out.kept (zaA wr (.cells #[.string (bs x),.bool false,.int .i64 gr] 118)));have HK2:=Hd (HKR.out.trans (zaA wr (.cells #[.string (bs x),.bool false,.int .i64 gr] 118)));have lk:=zvR (P:=Tryz.prog) Tryz.underlying116 Tryz.underlying3 (wr.alloc (.cells #[.string (bs x),.bool false,.int .i64 gr] 118)) M (ze3 (zgS ps key)) (gr:Int) (.bool false) (Tryz.zeroBool _) HM2.out;rw[zgQ] at lk;clear HM HKR;go_wp2_with fail;go_roundw
      case rel=>exact ⟨k+1,by omega,by go_num,HNO.out,HM2.out,HK2.out⟩
      case measure=>simp [intOf];omega
     | true =>
      cases hx1:(x == key) with
      | false =>
       have HNO:=Hd (HNX.out (by rw[hx1];rfl));have HM2:=Hd (HM.out.kept (zaA wr (.cells #[.string (bs x),.bool true,.int .i64 gr] 118)));have HK2:=Hd (HKR.out.trans (zaA wr (.cells #[.string (bs x),.bool true,.int .i64 gr] 118)));have lk:=zvR (P:=Tryz.prog) Tryz.underlying116 Tryz.underlying3 (wr.alloc (.cells #[.string (bs x),.bool true,.int .i64 gr] 118)) M (ze3 (zgS ps key)) (gr:Int) (.bool false) (Tryz.zeroBool _) HM2.out;rw[zgQ] at lk;clear HM HKR;go_wp2_with fail;go_roundw
       case rel=>exact ⟨k+1,by omega,by go_num,HNO.out,HM2.out,HK2.out⟩
       case measure=>simp [intOf];omega
      | true =>
       cases hct:(zgS ps key).contains (gr:Int) with
       | true =>
        have HNO:=Hd (HNX.out (by rw[hx1,hct];rfl));obtain rfl:x=key:=(by simpa using hx1);have HM2:=Hd (HM.out.kept (zaA wr (.cells #[.string (bs x),.bool true,.int .i64 gr] 118)));have HK2:=Hd (HKR.out.trans (zaA wr (.cells #[.string (bs x),.bool true,.int .i64 gr] 118)));have lk:=zvR (P:=Tryz.prog) Tryz.underlying116 Tryz.underlying3 (wr.alloc (.cells #[.string (bs x),.bool true,.int .i64 gr] 118)) M (ze3 (zgS ps x)) (gr:Int) (.bool false) (Tryz.zeroBool _) HM2.out;rw[zgQ] at lk;rw[hct] at lk;clear hct hx1;clear HM HKR;go_wp2_with fail;go_roundw
        case rel=>exact ⟨k+1,by omega,by go_num,HNO.out,HM2.out,HK2.out⟩
        case measure=>simp [intOf];omega
       | false =>
        have HR:=Hd (HYES.out (by rw[hx1,hct];rfl));obtain rfl:x=key:=(by simpa using hx1);have HM2:=Hd (HM.out.kept (zaA wr (.cells #[.string (bs x),.bool true,.int .i64 gr] 118)));have HK2:=Hd (HKR.out.trans (zaA wr (.cells #[.string (bs x),.bool true,.int .i64 gr] 118)));have lk:=zvR (P:=Tryz.prog) Tryz.underlying116 Tryz.underlying3 (wr.alloc (.cells #[.string (bs x),.bool true,.int .i64 gr] 118)) M (ze3 (zgS ps x)) (gr:Int) (.bool false) (Tryz.zeroBool _) HM2.out;rw[zgQ,hct] at lk;clear HM HKR hct hx1;go_wp2_with fail;go_ret;exact ⟨zaH HR.out.symm,HK2.out⟩
    ·obtain rfl:k=ps.length:=(by omega);have HR:=Hd (HT.out (fun k hk=>HN.out k hk hk));go_wp2_with fail;go_ret;exact ⟨zaH HR.out.symm,HKR.out⟩
structure StyT where
 name:Bs
 numeric:Bool
 sort:Bs
 cite:Bs
 bare:Bs
 between:Bs
 begin_:Bs
 end_:Bs
 most:Int
 entries:List Pr
def zaE (vE:Value) (y:StyT):Array Value:=#[.string (bs y.name),.bool y.numeric,.string (bs y.sort),.string (bs y.cite),.string (bs y.bare),.string (bs y.between),.string (bs y.begin_),.string (bs y.end_),.int .i64 y.most,vE]
def zeP (vE:Value) (y:StyT):Value:=.agg (zaE vE y)
def zb9:Bs:=[115,117,102,102,105,120]
def zaZ:Bs:=[110,117,109,98,101,114]
def znI (y:StyT):Int:=if zcU y.cite≠0 then zcU y.cite else if zf1 (zeC y.cite) (if y.numeric=true then zaZ else zb9)=false then 8 else zcU y.bare
def SmallY (y:StyT):Prop:=y.name.length<=100000/\y.sort.length<=100000/\y.cite.length<=100000/\y.bare.length<=100000/\y.between.length<=100000/\y.begin_.length<=100000/\y.end_.length<=100000/\y.entries.length<=10000/\∀ p∈y.entries,p.1.length<=100000/\p.2.length<=100000
theorem ziD:∀ (f:Nat) (r:Bs) (G g:Nat) (l:List Pc),zg2 f r G g=some l->l.length<=r.length
 | 0,_,_,_,_,h=>by cases h
 | f+1,[],G,g,l,h=>by
  rw[zdF] at h
  split at h
  ·cases h;simp
  ·cases h
 | f+1,b :: r,G,g,l,h=>by
  cases hin:za9 zbY b with
  | false =>
   rw[zeF _ _ _ hin,Option.map_eq_some_iff] at h;obtain ⟨l',h1,rfl⟩:=h;have:=ziD f _ G g l' h1;rw[List.length_drop] at this;rcases ztS (r:=r) hin with ⟨_,hn⟩|⟨k,_,hn,hk,hkl⟩
   ·rw[hn] at this;simp only[List.length_cons] at this ⊢;omega
   ·rw[hn] at this;simp only[List.length_cons] at this ⊢;omega
  | true =>
   rcases zcI hin with rfl|rfl|rfl|rfl
   ·rw[zfN] at h
    split at h
    ·rw[Option.map_eq_some_iff] at h;obtain ⟨l',h1,rfl⟩:=h;have:=ziD f _ G g l' h1;rw[List.length_drop] at this;simp;omega
    ·cases h
   ·rw[zfO] at h;cases h
   ·rw[zd8] at h
    split at h
    ·have:=ziD f _ _ _ l h;simp;omega
    ·cases h
   ·rw[zd9] at h
    split at h
    ·cases h
    ·have:=ziD f _ _ _ l h;simp;omega
theorem ztV (t:Bs):(zeC t).length<=t.length:=by
 unfold zeC
 split
 ·unfold zj2;cases h:zg2 (t.length+1) t 0 0 with
  | none=>simp
  | some l=>exact ziD _ t 0 0 l h
 ·simp
theorem zyS (vE:Value) (y:StyT) (w:World) (hg:Gnd w) (hs:SmallY y):Calls Tryz.prog 84 #[zeP vE y] w fun e w'=>e=.returned (.int .i64 (znI y))/\Kept w w':=by
 have HG:=Hd hg;obtain ⟨-,-,s3,s4,-⟩:=hs;have HC:=Hd (fun w h=>zgR y.cite w h s3);have HB:=Hd (fun w h=>zgR y.bare w h s4);have hln:=ztV y.cite;have HF:=Hd (fun v k w h=>zyR v (zeC y.cite) k w h (by omega));have HE:Hid (znI y=if zcU y.cite≠0 then zcU y.cite else if zf1 (zeC y.cite) (if y.numeric=true then zaZ else zb9)=false then 8 else zcU y.bare):=rfl;unfold SplitP at HC HB;generalize znI y=R at *;generalize zcU y.cite=E1 at *;generalize zcU y.bare=E2 at *;generalize zeC y.cite=L at *;clear hg;unfold zeP zaE;have HK0:=Hd (zaA w (.cells (zaE vE y) 33));have HB0:=Hd (Blk.new w 33 (zaE vE y));unfold zaE at HK0 HB0;go_enter Tryz.func84,Tryz.ntmps84;go_wp2_with fail;generalize w.alloc _=w0 at *;generalize w.heap.size=B at *;refine (HC.out _ (HG.out.kept HK0.out)).mono ?_;rintro e w1 ⟨v1,rfl,hp1,hk1⟩;have HP1:=Hd hp1;have HK1:=Hd (HK0.out.trans hk1);have HB1:=Hd (HB0.out.kept hk1);obtain ⟨a1,c1,rfl,-⟩:=hp1.form;clear hk1 hp1 HC;by_cases h1:E1=0
 case neg =>
  rw[if_pos h1] at HE;have h1':(E1 == 0)=false:=(by simpa using h1);go_wp2_with fail;go_ret;exact ⟨zaK HE.out.symm,HK1.out⟩
 subst h1;rw[if_neg (by simp)] at HE;have b1:w1.cell? ⟨B,1,none⟩=some (.bool y.numeric):=HB1.out.cell 1 _ rfl;have z1:=HB1.out.lt;cases hn:y.numeric
 all_goals
  rw[hn] at b1 HE;simp only[Bool.false_eq_true,if_false,if_true] at HE;clear hn
  (first|unfold zb9 at HE|unfold zaZ at HE)
  go_wp2_with fail;refine (HF.out _ _ _ HP1.out).mono ?_;rintro e w2 ⟨rfl,hk2⟩;have HK2:=Hd (HK1.out.trans hk2);have HB2:=Hd (HB1.out.kept hk2);clear hk2 b1 z1;have HG2:=Hd (HG.out.kept HK2.out);generalize zf1 L _=F at *;cases F with
  | false =>
   rw[if_pos rfl] at HE;go_wp2_with fail;go_ret;exact ⟨zaK HE.out.symm,HK2.out⟩
  | true =>
   rw[if_neg (by simp)] at HE;have b4:w2.cell? ⟨B,4,none⟩=some (.string (bs y.bare)):=HB2.out.cell 4 _ rfl;have z2:=HB2.out.lt;go_wp2_with fail;refine (HB.out _ HG2.out).mono ?_;rintro e w3 ⟨v3,rfl,hp3,hk3⟩;have HK3:=Hd (HK2.out.trans hk3);clear hp3 hk3;go_wp2_with fail;go_ret;exact ⟨zaK HE.out.symm,HK3.out⟩
structure Rp where
 txt:Bs
 fld:Bs
 grp:Nat
def zj4:Nat->Bs->Nat->Nat->Option (List Rp)
 | 0,_,_,_=>none
 | _+1,[],_,g=>if g=0 then some [] else none
 | f+1,b :: r,gs,g =>
  if za9 zbY b=false then (zj4 f r gs g).map fun l=>⟨[b],[],g⟩ :: l
  else if b=123 then
   if zaI 125 r<r.length/\za6 (r.take (zaI 125 r)) 20 []=true then (zj4 f (r.drop (zaI 125 r+1)) gs g).map fun l=>⟨[],r.take (zaI 125 r),g⟩ :: l else none
  else if b=91/\g=0 then zj4 f r (gs+1) (gs+1)
  else if b=93/\g≠0 then zj4 f r gs 0
  else none
theorem zkK (f gs g:Nat):zj4 (f+1) [] gs g=if g=0 then some [] else none:=rfl
theorem zoI {b:UInt8} {r:Bs} (f gs g:Nat) (h:za9 zbY b=false):zj4 (f+1) (b :: r) gs g=(zj4 f r gs g).map fun l=>⟨[b],[],g⟩ :: l:=by
 rw[zj4,if_pos h]
theorem zoJ {r:Bs} (f gs g:Nat):zj4 (f+1) (123 :: r) gs g=if zaI 125 r<r.length/\za6 (r.take (zaI 125 r)) 20 []=true then (zj4 f (r.drop (zaI 125 r+1)) gs g).map fun l=>⟨[],r.take (zaI 125 r),g⟩ :: l else none:=by
 rw[zj4,if_neg (by decide),if_pos rfl]
theorem zlN {r:Bs} (f gs g:Nat):zj4 (f+1) (91 :: r) gs g=if g=0 then zj4 f r (gs+1) (gs+1) else none:=by
 rw[zj4,if_neg (by decide),if_neg (by decide)];by_cases h:g=0
 ·rw[if_pos ⟨rfl,h⟩,if_pos h]
 ·rw[if_neg (fun q=>h q.2),if_neg (fun q=>absurd q.1 (by decide)),if_neg h]
theorem zlO {r:Bs} (f gs g:Nat):zj4 (f+1) (93 :: r) gs g=if g=0 then none else zj4 f r gs 0:=by
 rw[zj4,if_neg (by decide),if_neg (by decide),if_neg (fun q=>absurd q.1 (by decide))];by_cases h:g=0
 ·rw[if_neg (fun q=>q.2 h),if_pos h]
 ·rw[if_pos ⟨rfl,h⟩,if_neg h]
theorem zoK {r:Bs} (f gs g:Nat):zj4 (f+1) (125 :: r) gs g=none:=by
 rw[zj4,if_neg (by decide),if_neg (by decide),if_neg (fun q=>absurd q.1 (by decide)),if_neg (fun q=>absurd q.1 (by decide))]
def zEm (p:Pc):List Rp:=if p.fld=true then [⟨[],p.txt,p.grp⟩] else p.txt.map fun b=>⟨[b],[],p.grp⟩
def ztW (ps:List Pc):List Rp:=ps.flatMap zEm
theorem zBu:ziW []=0:=rfl
theorem zDx {b:UInt8} {r:Bs} (h:za9 zbY b=true):ziW (b :: r)=0:=by
 unfold ziW;rw[zlI h];rfl
theorem zkL {b:UInt8} {r:Bs} (h:za9 zbY b=false):ziW (b :: r)=ziW r+1:=by
 have hge:=Lib.indexAny_ge zbY r;unfold za9 at h;unfold ziW;rw[Lib.indexAny,h];simp only[Bool.false_eq_true,if_false,List.length_cons];by_cases q:Lib.indexAny r zbY = -1
 ·rw[q];rfl
 ·have q':(Lib.indexAny r zbY == -1)=false:=(by rw[beq_eq_false_iff_ne];exact q);rw[q'];simp only[Bool.false_eq_true,if_false];rw[if_neg (by omega),if_neg (by omega)];omega
theorem zDy (r:Bs):ziW r<=r.length:=by
 unfold ziW
 split
 ·exact Nat.le_refl _
 ·have:=zhB zbY r;omega
theorem zyT:∀ (n:Nat) (l:Bs),l.length<=n->∀ f f' gs g,l.length<f->l.length<f'->zg2 f l gs g=zg2 f' l gs g:=by
 intro n
 induction n with
 | zero =>
  intro l hl f f' gs g h1 h2;obtain rfl:l=[]:=List.length_eq_zero_iff.1 (by omega);obtain ⟨f,rfl⟩:∃ k,f=k+1:=⟨f - 1,by simp at h1;omega⟩;obtain ⟨f',rfl⟩:∃ k,f'=k+1:=⟨f' - 1,by simp at h2;omega⟩;rw[zdF,zdF]
 | succ n ih =>
  intro l hl f f' gs g h1 h2;obtain ⟨f,rfl⟩:∃ k,f=k+1:=⟨f - 1,by omega⟩;obtain ⟨f',rfl⟩:∃ k,f'=k+1:=⟨f' - 1,by omega⟩;cases l with
  | nil=>rw[zdF,zdF]
  | cons b r =>
   simp only[List.length_cons] at hl h1 h2;cases hin:za9 zbY b with
   | false =>
    rw[zeF _ _ _ hin,zeF _ _ _ hin];have hr:=zkL (r:=r) hin;rw[ih _ (by rw[List.length_drop];simp only[List.length_cons];omega) f f' gs g (by rw[List.length_drop];simp only[List.length_cons];omega) (by rw[List.length_drop];simp only[List.length_cons];omega)]
   | true =>
    rcases zcI hin with rfl|rfl|rfl|rfl
    ·rw[zfN,zfN,ih (r.drop (zaI 125 r+1)) (by rw[List.length_drop];omega) f f' gs g (by rw[List.length_drop];omega) (by rw[List.length_drop];omega)]
    ·rw[zfO,zfO]
    ·rw[zd8,zd8,ih r (by omega) f f' (gs+1) (gs+1) (by omega) (by omega)]
    ·rw[zd9,zd9,ih r (by omega) f f' gs 0 (by omega) (by omega)]
theorem zvY (r:Bs) (f gs g:Nat) (h:r.length<f):(zg2 f r gs g).map ztW=(zg2 f (r.drop (ziW r)) gs g).map fun l=>((r.take (ziW r)).map fun b=>(⟨[b],[],g⟩:Rp)) ++ ztW l:=by
 cases r with
 | nil =>
  rw[zBu];simp only[List.drop_zero,List.take_zero,List.map_nil,List.nil_append]
 | cons c r' =>
  cases hin:za9 zbY c with
  | true =>
   rw[zDx hin];simp only[List.drop_zero,List.take_zero,List.map_nil,List.nil_append]
  | false =>
   obtain ⟨f,rfl⟩:∃ k,f=k+1:=⟨f - 1,by omega⟩;simp only[List.length_cons] at h;have hr:=zkL (r:=r') hin;rw[zeF _ _ _ hin,zyT r'.length _ (by rw[List.length_drop];simp only[List.length_cons];omega) (f+1) f gs g (by rw[List.length_drop];simp only[List.length_cons];omega) (by rw[List.length_drop];simp only[List.length_cons];omega),Option.map_map];congr 1
theorem zDz:∀ (n:Nat) (l:Bs),l.length<=n->∀ f gs g,l.length<f->zj4 f l gs g=(zg2 f l gs g).map ztW:=by
 intro n
 induction n with
 | zero =>
  intro l hl f gs g h1;obtain rfl:l=[]:=List.length_eq_zero_iff.1 (by omega);obtain ⟨f,rfl⟩:∃ k,f=k+1:=⟨f - 1,by simp at h1;omega⟩;rw[zdF,zkK]
  split <;> rfl
 | succ n ih =>
  intro l hl f gs g h1;obtain ⟨f,rfl⟩:∃ k,f=k+1:=⟨f - 1,by omega⟩;cases l with
  | nil =>
   rw[zdF,zkK]
   split <;> rfl
  | cons b r =>
   simp only[List.length_cons] at hl h1;cases hin:za9 zbY b with
   | false =>
    rw[zeF _ _ _ hin,zoI _ _ _ hin,ih r (by omega) f gs g (by omega),zvY r f gs g (by omega),zkL hin,Option.map_map,Option.map_map];rfl
   | true =>
    rcases zcI hin with rfl|rfl|rfl|rfl
    ·rw[zfN,zoJ,ih (r.drop (zaI 125 r+1)) (by rw[List.length_drop];omega) f gs g (by rw[List.length_drop];omega)]
     split
     ·rw[Option.map_map,Option.map_map];rfl
     ·rfl
    ·rw[zfO,zoK];rfl
    ·rw[zd8,zlN,ih r (by omega) f (gs+1) (gs+1) (by omega)]
     split <;> rfl
    ·rw[zd9,zlO,ih r (by omega) f gs 0 (by omega)]
     split <;> rfl
def zm1 (t:Bs):Option (List Rp):=(zj2 t).map ztW
theorem zyU (t:Bs):zm1 t=zj4 (t.length+1) t 0 0:=by
 unfold zm1 zj2;rw[zDz t.length t (Nat.le_refl _) _ 0 0 (by omega)]
theorem ziE:∀ (f:Nat) (r:Bs) (G g:Nat) (l:List Pc),zg2 f r G g=some l->∀ p∈l,0<p.txt.length/\p.txt.length<=r.length/\(p.fld=true->za6 p.txt 20 []=true)/\(p.fld=false->∃ k n,p.txt=(r.drop k).take n)
 | 0,_,_,_,_,h=>by cases h
 | f+1,[],G,g,l,h=>by
  rw[zdF] at h
  split at h
  ·cases h;intro p hp;cases hp
  ·cases h
 | f+1,b :: r,G,g,l,h=>by
  cases hin:za9 zbY b with
  | false =>
   rw[zeF _ _ _ hin,Option.map_eq_some_iff] at h;obtain ⟨l',h1,rfl⟩:=h;have hr:=zkL (r:=r) hin;have hl:=zDy (b :: r);intro p hp;rcases List.mem_cons.1 hp with rfl|hp
   ·refine ⟨by rw[List.length_take];simp only[List.length_cons];omega,by rw[List.length_take];omega,(fun q=>by cases q),fun _=>⟨0,ziW (b :: r),by simp⟩⟩
   ·obtain ⟨a1,a2,a3,a4⟩:=ziE f _ G g l' h1 p hp;refine ⟨a1,by rw[List.length_drop] at a2;omega,a3,fun q=>?_⟩;obtain ⟨k,n,e⟩:=a4 q;exact ⟨ziW (b :: r)+k,n,by rw[e,List.drop_drop]⟩
  | true =>
   rcases zcI hin with rfl|rfl|rfl|rfl
   ·rw[zfN] at h
    split at h
    ·rename_i hc;rw[Option.map_eq_some_iff] at h;obtain ⟨l',h1,rfl⟩:=h;intro p hp;rcases List.mem_cons.1 hp with rfl|hp
     ·refine ⟨?_,by rw[List.length_take];simp only[List.length_cons];omega,fun _=>hc.2,fun q=>by cases q⟩;have h2:=hc.2;unfold za6 at h2;rw[Bool.and_eq_true] at h2;have:=of_decide_eq_true h2.1;simp at this ⊢;omega
     ·obtain ⟨a1,a2,a3,a4⟩:=ziE f _ G g l' h1 p hp;refine ⟨a1,by rw[List.length_drop] at a2;simp only[List.length_cons];omega,a3,fun q=>?_⟩;obtain ⟨k,n,e⟩:=a4 q;exact ⟨zaI 125 r+1+1+k,n,by rw[e,List.drop_drop,show zaI 125 r+1+1+k=(zaI 125 r+1+k)+1 by omega,List.drop_succ_cons]⟩
    ·cases h
   ·rw[zfO] at h;cases h
   ·rw[zd8] at h
    split at h
    ·intro p hp;obtain ⟨a1,a2,a3,a4⟩:=ziE f _ _ _ l h p hp;refine ⟨a1,by simp only[List.length_cons];omega,a3,fun q=>?_⟩;obtain ⟨k,n,e⟩:=a4 q;exact ⟨k+1,n,by rw[e,List.drop_succ_cons]⟩
    ·cases h
   ·rw[zd9] at h
    split at h
    ·cases h
    ·intro p hp;obtain ⟨a1,a2,a3,a4⟩:=ziE f _ _ _ l h p hp;refine ⟨a1,by simp only[List.length_cons];omega,a3,fun q=>?_⟩;obtain ⟨k,n,e⟩:=a4 q;exact ⟨k+1,n,by rw[e,List.drop_succ_cons]⟩
theorem zBv {t:Bs} {l:List Pc} (h:zj2 t=some l):∀ p∈l,0<p.txt.length/\p.txt.length<=t.length/\(p.fld=true->za6 p.txt 20 []=true)/\(p.fld=false->∃ k n,p.txt=(t.drop k).take n) :=
 ziE _ t 0 0 l h
theorem ztX {t:Bs}:∀ p∈zeC t,0<p.txt.length/\p.txt.length<=t.length/\(p.fld=true->za6 p.txt 20 []=true):=by
 intro p hp;unfold zeC at hp
 split at hp
 ·cases h:zj2 t with
  | none=>rw[h] at hp;cases hp
  | some l =>
   rw[h] at hp;obtain ⟨a,b,c,_⟩:=zBv h p hp;exact ⟨a,b,c⟩
 ·cases hp
def zC8 (l:List Rp) (key:Bs):Bool:=l.any fun p=>(p.fld == key) && l.all fun q=>p.grp == 0 || (!(q.grp == p.grp) || (q.fld == [] || q.fld == key))
theorem zBw (ps:List Pc) (key:Bs) (hk:key≠[]) (hn:∀ p∈ps,0<p.txt.length):zC8 (ztW ps) key=zf1 ps key:=by
 have hmem:∀ q:Rp,q∈ztW ps↔∃ p∈ps,q∈zEm p:=fun q=>(by unfold ztW;rw[List.mem_flatMap]);have hne:∀ p∈ps,p.txt≠[]:=fun p hp e=>(by have:=hn p hp;rw[e] at this;simp at this);rw[Bool.eq_iff_iff];constructor
 ·intro h;unfold zC8 at h;rw[List.any_eq_true] at h;obtain ⟨q,hq,h2⟩:=h;rw[Bool.and_eq_true,beq_iff_eq,List.all_eq_true] at h2;obtain ⟨hf,hall⟩:=h2;obtain ⟨p,hp,hqp⟩:=(hmem q).1 hq;unfold zEm at hqp
  split at hqp
  ·rename_i hfl;rw[List.mem_singleton] at hqp;subst hqp;unfold zf1;rw[List.any_eq_true];refine ⟨p,hp,?_⟩;simp only at hf hall;rw[hfl,hf];simp only[beq_self_eq_true,Bool.true_and,Bool.not_eq_true'];rw[Bool.eq_false_iff];intro hc;rw[List.contains_iff_mem] at hc;unfold zgS at hc;rw[List.mem_map] at hc;obtain ⟨p2,hp2,e2⟩:=hc;rw[List.mem_filter] at hp2;obtain ⟨hp2m,hp2c⟩:=hp2;simp only[Bool.and_eq_true,Bool.not_eq_true'] at hp2c;obtain ⟨c1,c2,c3⟩:=hp2c;have hm2:(⟨[],p2.txt,p2.grp⟩:Rp)∈ztW ps:=(hmem _).2 ⟨p2,hp2m,by unfold zEm;rw[if_pos c1];simp⟩;have h3:=hall _ hm2;simp only at h3;have e3:p2.grp=p.grp:=(by omega);rw[<- e3,c3,c2] at h3;have:(p2.txt == ([]:Bs))=false:=(by rw[beq_eq_false_iff_ne];exact hne p2 hp2m);rw[this] at h3;simp at h3
  ·rw[List.mem_map] at hqp;obtain ⟨b,_,rfl⟩:=hqp;exact absurd hf.symm hk
 ·intro h;unfold zf1 at h;rw[List.any_eq_true] at h;obtain ⟨p,hp,h2⟩:=h;simp only[Bool.and_eq_true,Bool.not_eq_true'] at h2;obtain ⟨hf,ht,hc⟩:=h2;rw[beq_iff_eq] at ht;unfold zC8;rw[List.any_eq_true];refine ⟨⟨[],p.txt,p.grp⟩,(hmem _).2 ⟨p,hp,by unfold zEm;rw[if_pos hf];simp⟩,?_⟩;simp only;rw[Bool.and_eq_true,beq_iff_eq,List.all_eq_true];refine ⟨ht,fun q hq=>?_⟩;obtain ⟨p2,hp2,hq2⟩:=(hmem q).1 hq;unfold zEm at hq2
  split at hq2
  ·rename_i hf2;rw[List.mem_singleton] at hq2;subst hq2;simp only;by_cases g0:p.grp=0
   ·rw[g0];simp
   by_cases g1:p2.grp=p.grp
   ·by_cases t2:p2.txt=key
    ·rw[t2];simp
    ·exfalso;rw[Bool.eq_false_iff] at hc;refine hc ?_;rw[List.contains_iff_mem];unfold zgS;rw[List.mem_map];refine ⟨p2,?_,by rw[g1]⟩;rw[List.mem_filter];refine ⟨hp2,?_⟩;have:(p2.txt == key)=false:=(by rw[beq_eq_false_iff_ne];exact t2);have g2:(p2.grp == 0)=false:=(by rw[beq_eq_false_iff_ne];omega);rw[hf2,this,g2];rfl
   ·have:(p2.grp == p.grp)=false:=(by rw[beq_eq_false_iff_ne];exact g1);rw[this];simp
  ·rw[List.mem_map] at hq2;obtain ⟨b,_,rfl⟩:=hq2;simp
def zcD (ps:List Pc) (val:Bs->Bs):List Int:=(ps.filter fun p=>p.fld && (!(p.grp == 0) && (val p.txt == []))).map fun p=>(p.grp:Int)
def zgX (val:Bs->Bs) (ds:List Int) (p:Pc):Bs:=if ds.contains (p.grp:Int)=true then [] else if p.fld=true then val p.txt else p.txt
def zoL (ps:List Pc) (val:Bs->Bs):Bs:=ps.flatMap (zgX val (zcD ps val))
end Go.Proofs.YtmcoomlkbgiboaaGreatDoor
