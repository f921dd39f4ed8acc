/- free of style. Conditions: lengths. -/
import Derived.Test.YtmcoomlkbgiboaaGreatDoorU15
import Derived.Test.YtmcoomlkbgiboaaGreatDoorU17
import Derived.Test.YtmcoomlkbgiboaaGreatDoorU11
set_option linter.all false
set_option maxRecDepth 100000
set_option maxHeartbeats 6400000
namespace Go.Proofs.YtmcoomlkbgiboaaGreatDoor
open Go.RowKit
def zgX (ps:List Pc) (key:Bs):List Int:=(ps.filter fun p=>p.fld && (!(p.txt == key) && !(p.grp == 0))).map fun p=>(p.grp:Int)
def zf5 (ps:List Pc) (key:Bs):Bool:=ps.any fun p=>p.fld && ((p.txt == key) && !((zgX ps key).contains (p.grp:Int)))
theorem zyJ (ps:List Pc) (key:Bs) (p:Pc):zgX (ps ++ [p]) key=zgX ps key ++ (if (p.fld && (!(p.txt == key) && !(p.grp == 0)))=true then [(p.grp:Int)] else []):=by
 unfold zgX;rw[List.filter_append,List.map_append];by_cases h:(p.fld && (!(p.txt == key) && !(p.grp == 0)))=true
 ·rw[if_pos h];simp [h]
 ·rw[if_neg h];simp [h]
theorem zyK (v:Value) (ps:List Pc) (key:Bs) (w:World) (hv:Pcs w v ps) (hl:ps.length<=1000000):Calls Tryz.prog 132 #[v,.string (bs key)] w fun e w'=>e=.returned (.bool (zf5 ps key))/\Kept w w':=by
 have HV:=Hd hv;obtain ⟨a,c,rfl,hc⟩:=hv.form;clear hv;have HTK:Hid (∀ k (hk:k<ps.length),zgX (ps.take (k+1)) key=zgX (ps.take k) key ++ (if (ps[k].fld && (!(ps[k].txt == key) && !(ps[k].grp == 0)))=true then [(ps[k].grp:Int)] else [])):=fun k hk=>by
  rw[List.take_succ_eq_append_getElem hk,zyJ]
 have HF:Hid (∀ k (hk:k<ps.length),(ps[k].fld && ((ps[k].txt == key) && !((zgX ps key).contains (ps[k].grp:Int))))=true->zf5 ps key=true):=fun k hk h =>
  List.any_eq_true.2 ⟨ps[k],List.getElem_mem hk,h⟩
 have HT:Hid ((∀ k (hk:k<ps.length),(ps[k].fld && ((ps[k].txt == key) && !((zgX ps key).contains (ps[k].grp:Int))))=false)->zf5 ps key=false):=fun h=>by
  unfold zf5;rw[List.any_eq_false];intro p hp;obtain ⟨k,hk,e⟩:=List.getElem_of_mem hp;have:=h k hk;rw[e] at this;rw[this];simp
 have HO0:Hid (zgX (ps.take 0) key=[]):=rfl;have HON:Hid (zgX (ps.take ps.length) key=zgX ps key):=(by show _=_;rw[List.take_of_length_le (Nat.le_refl _)]);generalize zf5 ps key=R at *;have mk:=fun w=>run_makeMap (P:=Tryz.prog) 116 w;go_enter Tryz.func132,Tryz.ntmps132;go_wp2_with fail;have HM0:=Hd (MapV.made w);have HK0:=Hd (zaA w (.map #[] 0));generalize w.alloc (.map #[] 0)=w0 at *;obtain ⟨M,HMM⟩:∃ M,Hid (w.heap.size=M):=⟨_,rfl⟩;have hMz:w.heap.size<=M:=(by rw[HMM.out];exact Nat.le_refl _);rw[HMM.out] at HM0 ⊢;go_loopw [13] (fun i wr=>∃ k:Nat,k<=ps.length/\i=.int .i64 k/\Hid (MapV wr M (ze4 (zgX (ps.take k) key)))/\Hid (Kept w wr)) (fun i _=>ps.length - (intOf i).toNat)
 case atStart=>exact ⟨0,Nat.zero_le _,rfl,HM0.out,HK0.out⟩
 case round =>
  obtain ⟨k,hk,rfl,HM,HKR⟩:=hrel;by_cases hlt:k<ps.length
  ·have hx:=List.getElem?_eq_getElem hlt;obtain ⟨g,o,rfl,hg,d0,d1,d2⟩:=(HV.out.kept HKR.out).cell_of k _ hx;have HST:=Hd (HTK.out k hlt);generalize ps[k]=p at *;obtain ⟨x,f,gr⟩:=p;simp only at d0 d1 d2 HST;have up:∀ w',MapV w' M (ze4 (zgX (ps.take k) key))->zgX (ps.take (k+1)) key=zgX (ps.take k) key ++ [(gr:Int)]->(Instr.mapUpdate 116 (.map (some M)) (.int .i64 gr) (.bool true)).run Tryz.prog w'=.ok () (zoI w' M (ze4 (zgX (ps.take (k+1)) key))):=by
    intro w' hm he;rw[he];cases hgv:zdG (ze4 (zgX (ps.take k) key)) (gr:Int) with
    | none =>
     rw[ze5,hgv];exact zEt (P:=Tryz.prog) Tryz.underlying116 Tryz.underlying3 w' _ _ gr (.bool true) hm hgv
    | some u =>
     have hu:u=.bool true:=by
      have:=zsR (zgX (ps.take k) key) gr;rw[hgv] at this
      split at this
      ·exact Option.some.inj this
      ·cases this
     subst hu;rw[ze5,hgv];exact zx5 (P:=Tryz.prog) Tryz.underlying116 Tryz.underlying3 w' _ _ gr (.bool true) hm hgv
   have UP:=Hd up;clear hx up;by_cases hc1:(f && (!(x == key) && !(gr == 0)))=true
   ·simp only[Bool.and_eq_true,Bool.not_eq_true'] at hc1;obtain ⟨rfl,h2,h3⟩:=hc1;rw[h2,h3,if_pos (by rfl)] at HST;have h3':((gr:Int) == 0)=false:=by
     rw[beq_eq_false_iff_ne];intro q;rw[beq_eq_false_iff_ne] at h3;omega
    have HM2:=Hd (HM.out.kept (zaA wr (.cells #[.string (bs x),.bool true,.int .i64 gr] 118)));have up:=UP.out _ HM2.out HST.out;have HM3:=Hd (zh5 _ _ (ze4 (zgX (ps.take (k+1)) key)) HM2.out.lt);have HO3:=Hd (zc6 (wr.alloc (.cells #[.string (bs x),.bool true,.int .i64 gr] 118)) M (ze4 (zgX (ps.take (k+1)) key)));have HK3:=Hd (zcB (HKR.out.trans (zaA wr (.cells #[.string (bs x),.bool true,.int .i64 gr] 118))) HO3.out hMz);go_wp2_with fail;go_roundw
    case rel=>exact ⟨k+1,by omega,by go_num,HM3.out,HK3.out⟩
    case measure=>simp [intOf];omega
   ·have HST2:Hid (zgX (ps.take (k+1)) key=zgX (ps.take k) key):=by
     show _=_;rw[HST.out,if_neg hc1,List.append_nil]
    cases f with
    | false =>
     clear hc1;have HM2:=Hd (HM.out.kept (zaA wr (.cells #[.string (bs x),.bool false,.int .i64 gr] 118)));have HK2:=Hd (HKR.out.trans (zaA wr (.cells #[.string (bs x),.bool false,.int .i64 gr] 118)));rw[<- HST2.out] at HM2;clear UP HM HKR HST;go_wp2_with fail;go_roundw
     case rel=>exact ⟨k+1,by omega,by go_num,HM2.out,HK2.out⟩
     case measure=>simp [intOf];omega
    | true =>
     cases hx1:(x == key) with
     | true =>
      obtain rfl:x=key:=(by simpa using hx1);clear hc1 hx1;have HM2:=Hd (HM.out.kept (zaA wr (.cells #[.string (bs x),.bool true,.int .i64 gr] 118)));have HK2:=Hd (HKR.out.trans (zaA wr (.cells #[.string (bs x),.bool true,.int .i64 gr] 118)));rw[<- HST2.out] at HM2;clear UP HM HKR HST;go_wp2_with fail;go_roundw
      case rel=>exact ⟨k+1,by omega,by go_num,HM2.out,HK2.out⟩
      case measure=>simp [intOf];omega
     | false =>
      have h3:(gr == 0)=true:=by
       rw[hx1] at hc1;simpa using hc1
      obtain rfl:gr=0:=(by simpa using h3);clear hc1 h3;have HM2:=Hd (HM.out.kept (zaA wr (.cells #[.string (bs x),.bool true,.int .i64 (0:Nat)] 118)));have HK2:=Hd (HKR.out.trans (zaA wr (.cells #[.string (bs x),.bool true,.int .i64 (0:Nat)] 118)));rw[<- HST2.out] at HM2;clear UP HM HKR HST;go_wp2_with fail;go_roundw
      case rel=>exact ⟨k+1,by omega,by go_num,HM2.out,HK2.out⟩
      case measure=>simp [intOf];omega
  ·obtain rfl:k=ps.length:=(by omega);rw[HON.out] at HM;have HM1:=Hd HM.out;have HK1:=Hd HKR.out;clear HM HKR HTK HON HO0 hlt;go_wp2_with fail;go_loopw [36] (fun i wr=>∃ k:Nat,k<=ps.length/\i=.int .i64 k/\Hid (∀ j (hj:j<ps.length),j<k->(ps[j].fld && ((ps[j].txt == key) && !((zgX ps key).contains (ps[j].grp:Int))))=false)/\Hid (MapV wr M (ze4 (zgX ps key)))/\Hid (Kept w wr)) (fun i _=>ps.length - (intOf i).toNat)
   case atStart=>exact ⟨0,Nat.zero_le _,rfl,fun j hj h=>by omega,HM1.out,HK1.out⟩
   case round =>
    clear HM1 HK1;obtain ⟨k,hk,rfl,HN,HM,HKR⟩:=hrel;by_cases hlt:k<ps.length
    ·have hx:=List.getElem?_eq_getElem hlt;obtain ⟨g,o,rfl,hg,d0,d1,d2⟩:=(HV.out.kept HKR.out).cell_of k _ hx;have HYES:=Hd (HF.out k hlt);have HNX:Hid ((ps[k].fld && ((ps[k].txt == key) && !((zgX ps key).contains (ps[k].grp:Int))))=false->∀ j (hj:j<ps.length),j<k+1->(ps[j].fld && ((ps[j].txt == key) && !((zgX ps key).contains (ps[j].grp:Int))))=false):=by
      intro h j hj hjk;rcases Nat.lt_or_ge j k with q|q
      ·exact HN.out j hj q
      ·obtain rfl:j=k:=(by omega);exact h
     clear hx;generalize ps[k]=p at d0 d1 d2 HYES HNX;obtain ⟨x,f,gr⟩:=p;simp only at d0 d1 d2 HYES HNX;cases f with
     | false =>
      have HNO:=Hd (HNX.out rfl);have HM2:=Hd (HM.out.kept (zaA wr (.cells #[.string (bs x),.bool false,.int .i64 gr] 118)));have HK2:=Hd (HKR.out.trans (zaA wr (.cells #[.string (bs x),.bool false,.int .i64 gr] 118)));have lk:=zvF (P:=Tryz.prog) Tryz.underlying116 Tryz.underlying3 (wr.alloc (.cells #[.string (bs x),.bool false,.int .i64 gr] 118)) M (ze4 (zgX ps key)) (gr:Int) (.bool false) (Tryz.zeroBool _) HM2.out;rw[zgV] at lk;clear HM HKR;go_wp2_with fail;go_roundw
      case rel=>exact ⟨k+1,by omega,by go_num,HNO.out,HM2.out,HK2.out⟩
      case measure=>simp [intOf];omega
     | true =>
      cases hx1:(x == key) with
      | false =>
       have HNO:=Hd (HNX.out (by rw[hx1];rfl));have HM2:=Hd (HM.out.kept (zaA wr (.cells #[.string (bs x),.bool true,.int .i64 gr] 118)));have HK2:=Hd (HKR.out.trans (zaA wr (.cells #[.string (bs x),.bool true,.int .i64 gr] 118)));have lk:=zvF (P:=Tryz.prog) Tryz.underlying116 Tryz.underlying3 (wr.alloc (.cells #[.string (bs x),.bool true,.int .i64 gr] 118)) M (ze4 (zgX ps key)) (gr:Int) (.bool false) (Tryz.zeroBool _) HM2.out;rw[zgV] at lk;clear HM HKR;go_wp2_with fail;go_roundw
       case rel=>exact ⟨k+1,by omega,by go_num,HNO.out,HM2.out,HK2.out⟩
       case measure=>simp [intOf];omega
      | true =>
       cases hct:(zgX ps key).contains (gr:Int) with
       | true =>
        have HNO:=Hd (HNX.out (by rw[hx1,hct];rfl));obtain rfl:x=key:=(by simpa using hx1);have HM2:=Hd (HM.out.kept (zaA wr (.cells #[.string (bs x),.bool true,.int .i64 gr] 118)));have HK2:=Hd (HKR.out.trans (zaA wr (.cells #[.string (bs x),.bool true,.int .i64 gr] 118)));have lk:=zvF (P:=Tryz.prog) Tryz.underlying116 Tryz.underlying3 (wr.alloc (.cells #[.string (bs x),.bool true,.int .i64 gr] 118)) M (ze4 (zgX ps x)) (gr:Int) (.bool false) (Tryz.zeroBool _) HM2.out;rw[zgV] at lk;rw[hct] at lk;clear hct hx1;clear HM HKR;go_wp2_with fail;go_roundw
        case rel=>exact ⟨k+1,by omega,by go_num,HNO.out,HM2.out,HK2.out⟩
        case measure=>simp [intOf];omega
       | false =>
        have HR:=Hd (HYES.out (by rw[hx1,hct];rfl));obtain rfl:x=key:=(by simpa using hx1);have HM2:=Hd (HM.out.kept (zaA wr (.cells #[.string (bs x),.bool true,.int .i64 gr] 118)));have HK2:=Hd (HKR.out.trans (zaA wr (.cells #[.string (bs x),.bool true,.int .i64 gr] 118)));have lk:=zvF (P:=Tryz.prog) Tryz.underlying116 Tryz.underlying3 (wr.alloc (.cells #[.string (bs x),.bool true,.int .i64 gr] 118)) M (ze4 (zgX ps x)) (gr:Int) (.bool false) (Tryz.zeroBool _) HM2.out;rw[zgV,hct] at lk;clear HM HKR hct hx1;go_wp2_with fail;go_ret;exact ⟨zaO HR.out.symm,HK2.out⟩
    ·obtain rfl:k=ps.length:=(by omega);have HR:=Hd (HT.out (fun k hk=>HN.out k hk hk));go_wp2_with fail;go_ret;exact ⟨zaO HR.out.symm,HKR.out⟩
structure StyT where
 name:Bs
 numeric:Bool
 sort:Bs
 cite:Bs
 bare:Bs
 between:Bs
 begin_:Bs
 end_:Bs
 most:Int
 entries:List Pr
def zaD (vE:Value) (y:StyT):Array Value:=#[.string (bs y.name),.bool y.numeric,.string (bs y.sort),.string (bs y.cite),.string (bs y.bare),.string (bs y.between),.string (bs y.begin_),.string (bs y.end_),.int .i64 y.most,vE]
def zdU (vE:Value) (y:StyT):Value:=.agg (zaD vE y)
def zb9:Bs:=[115,117,102,102,105,120]
def zbD:Bs:=[110,117,109,98,101,114]
def znL (y:StyT):Int:=if zcW y.cite≠0 then zcW y.cite else if zf5 (zeK y.cite) (if y.numeric=true then zbD else zb9)=false then 8 else zcW y.bare
def SmallY (y:StyT):Prop:=y.name.length<=100000/\y.sort.length<=100000/\y.cite.length<=100000/\y.bare.length<=100000/\y.between.length<=100000/\y.begin_.length<=100000/\y.end_.length<=100000/\y.entries.length<=10000/\∀ p∈y.entries,p.1.length<=100000/\p.2.length<=100000
theorem ziF:∀ (f:Nat) (r:Bs) (G g:Nat) (l:List Pc),zhK f r G g=some l->l.length<=r.length
 | 0,_,_,_,_,h=>by cases h
 | f+1,[],G,g,l,h=>by
  rw[zd8] at h
  split at h
  ·cases h;simp
  ·cases h
 | f+1,b :: r,G,g,l,h=>by
  cases hin:zbN zcA b with
  | false =>
   rw[zfQ _ _ _ hin,Option.map_eq_some_iff] at h;obtain ⟨l',h1,rfl⟩:=h;have:=ziF f _ G g l' h1;rw[List.length_drop] at this;rcases ztU (r:=r) hin with ⟨_,hn⟩|⟨k,_,hn,hk,hkl⟩
   ·rw[hn] at this;simp only[List.length_cons] at this ⊢;omega
   ·rw[hn] at this;simp only[List.length_cons] at this ⊢;omega
  | true =>
   rcases zcX hin with rfl|rfl|rfl|rfl
   ·rw[zgT] at h
    split at h
    ·rw[Option.map_eq_some_iff] at h;obtain ⟨l',h1,rfl⟩:=h;have:=ziF f _ G g l' h1;rw[List.length_drop] at this;simp;omega
    ·cases h
   ·rw[zgU] at h;cases h
   ·rw[ze2] at h
    split at h
    ·have:=ziF f _ _ _ l h;simp;omega
    ·cases h
   ·rw[ze3] at h
    split at h
    ·cases h
    ·have:=ziF f _ _ _ l h;simp;omega
theorem ztX (t:Bs):(zeK t).length<=t.length:=by
 unfold zeK
 split
 ·unfold zkM;cases h:zhK (t.length+1) t 0 0 with
  | none=>simp
  | some l=>exact ziF _ t 0 0 l h
 ·simp
theorem zyL (vE:Value) (y:StyT) (w:World) (hg:Gnd w) (hs:SmallY y):Calls Tryz.prog 84 #[zdU vE y] w fun e w'=>e=.returned (.int .i64 (znL y))/\Kept w w':=by
 have HG:=Hd hg;obtain ⟨-,-,s3,s4,-⟩:=hs;have HC:=Hd (fun w h=>zgW y.cite w h s3);have HB:=Hd (fun w h=>zgW y.bare w h s4);have hln:=ztX y.cite;have HF:=Hd (fun v k w h=>zyK v (zeK y.cite) k w h (by omega));have HE:Hid (znL y=if zcW y.cite≠0 then zcW y.cite else if zf5 (zeK y.cite) (if y.numeric=true then zbD else zb9)=false then 8 else zcW y.bare):=rfl;unfold SplitP at HC HB;generalize znL y=R at *;generalize zcW y.cite=E1 at *;generalize zcW y.bare=E2 at *;generalize zeK y.cite=L at *;clear hg;unfold zdU zaD;have HK0:=Hd (zaA w (.cells (zaD vE y) 33));have HB0:=Hd (Blk.new w 33 (zaD vE y));unfold zaD at HK0 HB0;go_enter Tryz.func84,Tryz.ntmps84;go_wp2_with fail;generalize w.alloc _=w0 at *;generalize w.heap.size=B at *;refine (HC.out _ (HG.out.kept HK0.out)).mono ?_;rintro e w1 ⟨v1,rfl,hp1,hk1⟩;have HP1:=Hd hp1;have HK1:=Hd (HK0.out.trans hk1);have HB1:=Hd (HB0.out.kept hk1);obtain ⟨a1,c1,rfl,-⟩:=hp1.form;clear hk1 hp1 HC;by_cases h1:E1=0
 case neg =>
  rw[if_pos h1] at HE;have h1':(E1 == 0)=false:=(by simpa using h1);go_wp2_with fail;go_ret;exact ⟨zaK HE.out.symm,HK1.out⟩
 subst h1;rw[if_neg (by simp)] at HE;have b1:w1.cell? ⟨B,1,none⟩=some (.bool y.numeric):=HB1.out.cell 1 _ rfl;have z1:=HB1.out.lt;cases hn:y.numeric
 all_goals
  rw[hn] at b1 HE;simp only[Bool.false_eq_true,if_false,if_true] at HE;clear hn
  (first|unfold zb9 at HE|unfold zbD at HE)
  go_wp2_with fail;refine (HF.out _ _ _ HP1.out).mono ?_;rintro e w2 ⟨rfl,hk2⟩;have HK2:=Hd (HK1.out.trans hk2);have HB2:=Hd (HB1.out.kept hk2);clear hk2 b1 z1;have HG2:=Hd (HG.out.kept HK2.out);generalize zf5 L _=F at *;cases F with
  | false =>
   rw[if_pos rfl] at HE;go_wp2_with fail;go_ret;exact ⟨zaK HE.out.symm,HK2.out⟩
  | true =>
   rw[if_neg (by simp)] at HE;have b4:w2.cell? ⟨B,4,none⟩=some (.string (bs y.bare)):=HB2.out.cell 4 _ rfl;have z2:=HB2.out.lt;go_wp2_with fail;refine (HB.out _ HG2.out).mono ?_;rintro e w3 ⟨v3,rfl,hp3,hk3⟩;have HK3:=Hd (HK2.out.trans hk3);clear hp3 hk3;go_wp2_with fail;go_ret;exact ⟨zaK HE.out.symm,HK3.out⟩
structure Rp where
 txt:Bs
 fld:Bs
 grp:Nat
def zkA:Nat->Bs->Nat->Nat->Option (List Rp)
 | 0,_,_,_=>none
 | _+1,[],_,g=>if g=0 then some [] else none
 | f+1,b :: r,gs,g =>
  if zbN zcA b=false then (zkA f r gs g).map fun l=>⟨[b],[],g⟩ :: l
  else if b=123 then
   if zaP 125 r<r.length/\za7 (r.take (zaP 125 r)) 20 []=true then (zkA f (r.drop (zaP 125 r+1)) gs g).map fun l=>⟨[],r.take (zaP 125 r),g⟩ :: l else none
  else if b=91/\g=0 then zkA f r (gs+1) (gs+1)
  else if b=93/\g≠0 then zkA f r gs 0
  else none
theorem zkO (f gs g:Nat):zkA (f+1) [] gs g=if g=0 then some [] else none:=rfl
theorem zoN {b:UInt8} {r:Bs} (f gs g:Nat) (h:zbN zcA b=false):zkA (f+1) (b :: r) gs g=(zkA f r gs g).map fun l=>⟨[b],[],g⟩ :: l:=by
 rw[zkA,if_pos h]
theorem zoO {r:Bs} (f gs g:Nat):zkA (f+1) (123 :: r) gs g=if zaP 125 r<r.length/\za7 (r.take (zaP 125 r)) 20 []=true then (zkA f (r.drop (zaP 125 r+1)) gs g).map fun l=>⟨[],r.take (zaP 125 r),g⟩ :: l else none:=by
 rw[zkA,if_neg (by decide),if_pos rfl]
theorem zlN {r:Bs} (f gs g:Nat):zkA (f+1) (91 :: r) gs g=if g=0 then zkA f r (gs+1) (gs+1) else none:=by
 rw[zkA,if_neg (by decide),if_neg (by decide)];by_cases h:g=0
 ·rw[if_pos ⟨rfl,h⟩,if_pos h]
 ·rw[if_neg (fun q=>h q.2),if_neg (fun q=>absurd q.1 (by decide)),if_neg h]
theorem zlO {r:Bs} (f gs g:Nat):zkA (f+1) (93 :: r) gs g=if g=0 then none else zkA f r gs 0:=by
 rw[zkA,if_neg (by decide),if_neg (by decide),if_neg (fun q=>absurd q.1 (by decide))];by_cases h:g=0
 ·rw[if_neg (fun q=>q.2 h),if_pos h]
 ·rw[if_pos ⟨rfl,h⟩,if_neg h]
theorem zoP {r:Bs} (f gs g:Nat):zkA (f+1) (125 :: r) gs g=none:=by
 rw[zkA,if_neg (by decide),if_neg (by decide),if_neg (fun q=>absurd q.1 (by decide)),if_neg (fun q=>absurd q.1 (by decide))]
def zwZ (p:Pc):List Rp:=if p.fld=true then [⟨[],p.txt,p.grp⟩] else p.txt.map fun b=>⟨[b],[],p.grp⟩
def ziY (ps:List Pc):List Rp:=ps.flatMap zwZ
theorem zyM (p:Pc) (ps:List Pc):ziY (p :: ps)=zwZ p ++ ziY ps:=rfl
theorem zBi:znK []=0:=rfl
theorem zDo {b:UInt8} {r:Bs} (h:zbN zcA b=true):znK (b :: r)=0:=by
 unfold znK;rw[zqM h];rfl
theorem zkP {b:UInt8} {r:Bs} (h:zbN zcA b=false):znK (b :: r)=znK r+1:=by
 have hge:=Lib.indexAny_ge zcA r;unfold zbN at h;unfold znK;rw[Lib.indexAny,h];simp only[Bool.false_eq_true,if_false,List.length_cons];by_cases q:Lib.indexAny r zcA = -1
 ·rw[q];rfl
 ·have q':(Lib.indexAny r zcA == -1)=false:=(by rw[beq_eq_false_iff_ne];exact q);rw[q'];simp only[Bool.false_eq_true,if_false];rw[if_neg (by omega),if_neg (by omega)];omega
theorem zDp (r:Bs):znK r<=r.length:=by
 unfold znK
 split
 ·exact Nat.le_refl _
 ·have:=zhL zcA r;omega
theorem zyN:∀ (n:Nat) (l:Bs),l.length<=n->∀ f f' gs g,l.length<f->l.length<f'->zhK f l gs g=zhK f' l gs g:=by
 intro n
 induction n with
 | zero =>
  intro l hl f f' gs g h1 h2;obtain rfl:l=[]:=List.length_eq_zero_iff.1 (by omega);obtain ⟨f,rfl⟩:∃ k,f=k+1:=⟨f - 1,by simp at h1;omega⟩;obtain ⟨f',rfl⟩:∃ k,f'=k+1:=⟨f' - 1,by simp at h2;omega⟩;rw[zd8,zd8]
 | succ n ih =>
  intro l hl f f' gs g h1 h2;obtain ⟨f,rfl⟩:∃ k,f=k+1:=⟨f - 1,by omega⟩;obtain ⟨f',rfl⟩:∃ k,f'=k+1:=⟨f' - 1,by omega⟩;cases l with
  | nil=>rw[zd8,zd8]
  | cons b r =>
   simp only[List.length_cons] at hl h1 h2;cases hin:zbN zcA b with
   | false =>
    rw[zfQ _ _ _ hin,zfQ _ _ _ hin];have hr:=zkP (r:=r) hin;rw[ih _ (by rw[List.length_drop];simp only[List.length_cons];omega) f f' gs g (by rw[List.length_drop];simp only[List.length_cons];omega) (by rw[List.length_drop];simp only[List.length_cons];omega)]
   | true =>
    rcases zcX hin with rfl|rfl|rfl|rfl
    ·rw[zgT,zgT,ih (r.drop (zaP 125 r+1)) (by rw[List.length_drop];omega) f f' gs g (by rw[List.length_drop];omega) (by rw[List.length_drop];omega)]
    ·rw[zgU,zgU]
    ·rw[ze2,ze2,ih r (by omega) f f' (gs+1) (gs+1) (by omega) (by omega)]
    ·rw[ze3,ze3,ih r (by omega) f f' gs 0 (by omega) (by omega)]
theorem zvM (r:Bs) (f gs g:Nat) (h:r.length<f):(zhK f r gs g).map ziY=(zhK f (r.drop (znK r)) gs g).map fun l=>((r.take (znK r)).map fun b=>(⟨[b],[],g⟩:Rp)) ++ ziY l:=by
 cases r with
 | nil =>
  rw[zBi];simp only[List.drop_zero,List.take_zero,List.map_nil,List.nil_append]
 | cons c r' =>
  cases hin:zbN zcA c with
  | true =>
   rw[zDo hin];simp only[List.drop_zero,List.take_zero,List.map_nil,List.nil_append]
  | false =>
   obtain ⟨f,rfl⟩:∃ k,f=k+1:=⟨f - 1,by omega⟩;simp only[List.length_cons] at h;have hr:=zkP (r:=r') hin;rw[zfQ _ _ _ hin,zyN r'.length _ (by rw[List.length_drop];simp only[List.length_cons];omega) (f+1) f gs g (by rw[List.length_drop];simp only[List.length_cons];omega) (by rw[List.length_drop];simp only[List.length_cons];omega),Option.map_map];congr 1
theorem zDq:∀ (n:Nat) (l:Bs),l.length<=n->∀ f gs g,l.length<f->zkA f l gs g=(zhK f l gs g).map ziY:=by
 intro n
 induction n with
 | zero =>
  intro l hl f gs g h1;obtain rfl:l=[]:=List.length_eq_zero_iff.1 (by omega);obtain ⟨f,rfl⟩:∃ k,f=k+1:=⟨f - 1,by simp at h1;omega⟩;rw[zd8,zkO]
  split <;> rfl
 | succ n ih =>
  intro l hl f gs g h1;obtain ⟨f,rfl⟩:∃ k,f=k+1:=⟨f - 1,by omega⟩;cases l with
  | nil =>
   rw[zd8,zkO]
   split <;> rfl
  | cons b r =>
   simp only[List.length_cons] at hl h1;cases hin:zbN zcA b with
   | false =>
    rw[zfQ _ _ _ hin,zoN _ _ _ hin,ih r (by omega) f gs g (by omega),zvM r f gs g (by omega),zkP hin,Option.map_map,Option.map_map];rfl
   | true =>
    rcases zcX hin with rfl|rfl|rfl|rfl
    ·rw[zgT,zoO,ih (r.drop (zaP 125 r+1)) (by rw[List.length_drop];omega) f gs g (by rw[List.length_drop];omega)]
     split
     ·rw[Option.map_map,Option.map_map];rfl
     ·rfl
    ·rw[zgU,zoP];rfl
    ·rw[ze2,zlN,ih r (by omega) f (gs+1) (gs+1) (by omega)]
     split <;> rfl
    ·rw[ze3,zlO,ih r (by omega) f gs 0 (by omega)]
     split <;> rfl
def zlP (t:Bs):Option (List Rp):=(zkM t).map ziY
theorem zsS (t:Bs):zlP t=zkA (t.length+1) t 0 0:=by
 unfold zlP zkM;rw[zDq t.length t (Nat.le_refl _) _ 0 0 (by omega)]
theorem ziG:∀ (f:Nat) (r:Bs) (G g:Nat) (l:List Pc),zhK f r G g=some l->∀ p∈l,0<p.txt.length/\p.txt.length<=r.length/\(p.fld=true->za7 p.txt 20 []=true)/\(p.fld=false->∃ k n,p.txt=(r.drop k).take n)
 | 0,_,_,_,_,h=>by cases h
 | f+1,[],G,g,l,h=>by
  rw[zd8] at h
  split at h
  ·cases h;intro p hp;cases hp
  ·cases h
 | f+1,b :: r,G,g,l,h=>by
  cases hin:zbN zcA b with
  | false =>
   rw[zfQ _ _ _ hin,Option.map_eq_some_iff] at h;obtain ⟨l',h1,rfl⟩:=h;have hr:=zkP (r:=r) hin;have hl:=zDp (b :: r);intro p hp;rcases List.mem_cons.1 hp with rfl|hp
   ·refine ⟨by rw[List.length_take];simp only[List.length_cons];omega,by rw[List.length_take];omega,(fun q=>by cases q),fun _=>⟨0,znK (b :: r),by simp⟩⟩
   ·obtain ⟨a1,a2,a3,a4⟩:=ziG f _ G g l' h1 p hp;refine ⟨a1,by rw[List.length_drop] at a2;omega,a3,fun q=>?_⟩;obtain ⟨k,n,e⟩:=a4 q;exact ⟨znK (b :: r)+k,n,by rw[e,List.drop_drop]⟩
  | true =>
   rcases zcX hin with rfl|rfl|rfl|rfl
   ·rw[zgT] at h
    split at h
    ·rename_i hc;rw[Option.map_eq_some_iff] at h;obtain ⟨l',h1,rfl⟩:=h;intro p hp;rcases List.mem_cons.1 hp with rfl|hp
     ·refine ⟨?_,by rw[List.length_take];simp only[List.length_cons];omega,fun _=>hc.2,fun q=>by cases q⟩;have h2:=hc.2;unfold za7 at h2;rw[Bool.and_eq_true] at h2;have:=of_decide_eq_true h2.1;simp at this ⊢;omega
     ·obtain ⟨a1,a2,a3,a4⟩:=ziG f _ G g l' h1 p hp;refine ⟨a1,by rw[List.length_drop] at a2;simp only[List.length_cons];omega,a3,fun q=>?_⟩;obtain ⟨k,n,e⟩:=a4 q;exact ⟨zaP 125 r+1+1+k,n,by rw[e,List.drop_drop,show zaP 125 r+1+1+k=(zaP 125 r+1+k)+1 by omega,List.drop_succ_cons]⟩
    ·cases h
   ·rw[zgU] at h;cases h
   ·rw[ze2] at h
    split at h
    ·intro p hp;obtain ⟨a1,a2,a3,a4⟩:=ziG f _ _ _ l h p hp;refine ⟨a1,by simp only[List.length_cons];omega,a3,fun q=>?_⟩;obtain ⟨k,n,e⟩:=a4 q;exact ⟨k+1,n,by rw[e,List.drop_succ_cons]⟩
    ·cases h
   ·rw[ze3] at h
    split at h
    ·cases h
    ·intro p hp;obtain ⟨a1,a2,a3,a4⟩:=ziG f _ _ _ l h p hp;refine ⟨a1,by simp only[List.length_cons];omega,a3,fun q=>?_⟩;obtain ⟨k,n,e⟩:=a4 q;exact ⟨k+1,n,by rw[e,List.drop_succ_cons]⟩
theorem zBj {t:Bs} {l:List Pc} (h:zkM t=some l):∀ p∈l,0<p.txt.length/\p.txt.length<=t.length/\(p.fld=true->za7 p.txt 20 []=true)/\(p.fld=false->∃ k n,p.txt=(t.drop k).take n) :=
 ziG _ t 0 0 l h
theorem zoQ {t:Bs}:∀ p∈zeK t,0<p.txt.length/\p.txt.length<=t.length/\(p.fld=true->za7 p.txt 20 []=true):=by
 intro p hp;unfold zeK at hp
 split at hp
 ·cases h:zkM t with
  | none=>rw[h] at hp;cases hp
  | some l =>
   rw[h] at hp;obtain ⟨a,b,c,_⟩:=zBj h p hp;exact ⟨a,b,c⟩
 ·cases hp
def zCV (l:List Rp) (key:Bs):Bool:=l.any fun p=>(p.fld == key) && l.all fun q=>p.grp == 0 || (!(q.grp == p.grp) || (q.fld == [] || q.fld == key))
theorem zBk (ps:List Pc) (key:Bs) (hk:key≠[]) (hn:∀ p∈ps,0<p.txt.length):zCV (ziY ps) key=zf5 ps key:=by
 have hmem:∀ q:Rp,q∈ziY ps↔∃ p∈ps,q∈zwZ p:=fun q=>(by unfold ziY;rw[List.mem_flatMap]);have hne:∀ p∈ps,p.txt≠[]:=fun p hp e=>(by have:=hn p hp;rw[e] at this;simp at this);rw[Bool.eq_iff_iff];constructor
 ·intro h;unfold zCV at h;rw[List.any_eq_true] at h;obtain ⟨q,hq,h2⟩:=h;rw[Bool.and_eq_true,beq_iff_eq,List.all_eq_true] at h2;obtain ⟨hf,hall⟩:=h2;obtain ⟨p,hp,hqp⟩:=(hmem q).1 hq;unfold zwZ at hqp
  split at hqp
  ·rename_i hfl;rw[List.mem_singleton] at hqp;subst hqp;unfold zf5;rw[List.any_eq_true];refine ⟨p,hp,?_⟩;simp only at hf hall;rw[hfl,hf];simp only[beq_self_eq_true,Bool.true_and,Bool.not_eq_true'];rw[Bool.eq_false_iff];intro hc;rw[List.contains_iff_mem] at hc;unfold zgX at hc;rw[List.mem_map] at hc;obtain ⟨p2,hp2,e2⟩:=hc;rw[List.mem_filter] at hp2;obtain ⟨hp2m,hp2c⟩:=hp2;simp only[Bool.and_eq_true,Bool.not_eq_true'] at hp2c;obtain ⟨c1,c2,c3⟩:=hp2c;have hm2:(⟨[],p2.txt,p2.grp⟩:Rp)∈ziY ps:=(hmem _).2 ⟨p2,hp2m,by unfold zwZ;rw[if_pos c1];simp⟩;have h3:=hall _ hm2;simp only at h3;have e3:p2.grp=p.grp:=(by omega);rw[<- e3,c3,c2] at h3;have:(p2.txt == ([]:Bs))=false:=(by rw[beq_eq_false_iff_ne];exact hne p2 hp2m);rw[this] at h3;simp at h3
  ·rw[List.mem_map] at hqp;obtain ⟨b,_,rfl⟩:=hqp;exact absurd hf.symm hk
 ·intro h;unfold zf5 at h;rw[List.any_eq_true] at h;obtain ⟨p,hp,h2⟩:=h;simp only[Bool.and_eq_true,Bool.not_eq_true'] at h2;obtain ⟨hf,ht,hc⟩:=h2;rw[beq_iff_eq] at ht;unfold zCV;rw[List.any_eq_true];refine ⟨⟨[],p.txt,p.grp⟩,(hmem _).2 ⟨p,hp,by unfold zwZ;rw[if_pos hf];simp⟩,?_⟩;simp only;rw[Bool.and_eq_true,beq_iff_eq,List.all_eq_true];refine ⟨ht,fun q hq=>?_⟩;obtain ⟨p2,hp2,hq2⟩:=(hmem q).1 hq;unfold zwZ at hq2
  split at hq2
  ·rename_i hf2;rw[List.mem_singleton] at hq2;subst hq2;simp only;by_cases g0:p.grp=0
   ·rw[g0];simp
   by_cases g1:p2.grp=p.grp
   ·by_cases t2:p2.txt=key
    ·rw[t2];simp
    ·exfalso;rw[Bool.eq_false_iff] at hc;refine hc ?_;rw[List.contains_iff_mem];unfold zgX;rw[List.mem_map];refine ⟨p2,?_,by rw[g1]⟩;rw[List.mem_filter];refine ⟨hp2,?_⟩;have:(p2.txt == key)=false:=(by rw[beq_eq_false_iff_ne];exact t2);have g2:(p2.grp == 0)=false:=(by rw[beq_eq_false_iff_ne];omega);rw[hf2,this,g2];rfl
   ·have:(p2.grp == p.grp)=false:=(by rw[beq_eq_false_iff_ne];exact g1);rw[this];simp
  ·rw[List.mem_map] at hq2;obtain ⟨b,_,rfl⟩:=hq2;simp
def zcM (ps:List Pc) (val:Bs->Bs):List Int:=(ps.filter fun p=>p.fld && (!(p.grp == 0) && (val p.txt == []))).map fun p=>(p.grp:Int)
def ziH (val:Bs->Bs) (ds:List Int) (p:Pc):Bs:=if ds.contains (p.grp:Int)=true then [] else if p.fld=true then val p.txt else p.txt
def zsT (ps:List Pc) (val:Bs->Bs):Bs:=ps.flatMap (ziH val (zcM ps val))
def zeL (l:List Rp) (val:Bs->Bs) (g:Nat):Bool:=l.any fun q=>decide (0<g) && ((q.grp == g) && (!(q.fld == []) && (val q.fld == [])))
def zDr (l:List Rp) (val:Bs->Bs):Bs:=l.flatMap fun p=>if zeL l val p.grp=true then [] else p.txt ++ (if p.fld=[] then [] else val p.fld)
theorem zyO (ps:List Pc) (val:Bs->Bs) (hn:∀ p∈ps,0<p.txt.length) (g:Nat):zeL (ziY ps) val g=(zcM ps val).contains (g:Int):=by
 have hmem:∀ q:Rp,q∈ziY ps↔∃ p∈ps,q∈zwZ p:=fun q=>(by unfold ziY;rw[List.mem_flatMap]);have hne:∀ p∈ps,p.txt≠[]:=fun p hp e=>(by have:=hn p hp;rw[e] at this;simp at this);rw[Bool.eq_iff_iff,List.contains_iff_mem];unfold zeL zcM;rw[List.any_eq_true,List.mem_map];constructor
 ·rintro ⟨q,hq,h⟩;simp only[Bool.and_eq_true,decide_eq_true_eq,beq_iff_eq,Bool.not_eq_true',beq_eq_false_iff_ne] at h;obtain ⟨h0,h1,h2,h3⟩:=h;obtain ⟨p,hp,hqp⟩:=(hmem q).1 hq;unfold zwZ at hqp
  split at hqp
  ·rename_i hf;rw[List.mem_singleton] at hqp;subst hqp;simp only at h1 h2 h3;refine ⟨p,?_,by rw[h1]⟩;rw[List.mem_filter];refine ⟨hp,?_⟩;have g2:(p.grp == 0)=false:=(by rw[beq_eq_false_iff_ne];omega);rw[hf,g2,h3];rfl
  ·rw[List.mem_map] at hqp;obtain ⟨b,_,rfl⟩:=hqp;exact absurd rfl h2
 ·rintro ⟨p,hp,e⟩;rw[List.mem_filter] at hp;obtain ⟨hp,h⟩:=hp;simp only[Bool.and_eq_true,beq_iff_eq,Bool.not_eq_true',beq_eq_false_iff_ne] at h;obtain ⟨h1,h2,h3⟩:=h;have e':p.grp=g:=(by omega);refine ⟨⟨[],p.txt,p.grp⟩,(hmem _).2 ⟨p,hp,by unfold zwZ;rw[if_pos h1];simp⟩,?_⟩;simp only[Bool.and_eq_true,decide_eq_true_eq,beq_iff_eq,Bool.not_eq_true',beq_eq_false_iff_ne];exact ⟨by omega,e',hne p hp,h3⟩
theorem zDs (ps:List Pc) (val:Bs->Bs) (hn:∀ p∈ps,0<p.txt.length):zDr (ziY ps) val=zsT ps val:=by
 have hne:∀ p∈ps,p.txt≠[]:=fun p hp e=>(by have:=hn p hp;rw[e] at this;simp at this);have hg:=zyO ps val hn;unfold zDr zsT;generalize zeL (ziY ps) val=G at hg ⊢;generalize zcM ps val=D at hg ⊢;clear hn
 induction ps with
 | nil=>rfl
 | cons p ps ih =>
  rw[zyM,List.flatMap_append,List.flatMap_cons,ih (fun q hq=>hne q (List.mem_cons_of_mem _ hq))];congr 1;unfold zwZ ziH;rw[<- hg p.grp]
  split
  ·rename_i hf;have:=hne p (List.mem_cons_self ..);simp only[List.flatMap_cons,List.flatMap_nil,List.append_nil,List.nil_append];rw[if_neg this]
  ·rw[List.flatMap_map];simp only[if_true,List.append_nil]
   split
   ·induction p.txt with
    | nil=>rfl
    | cons b t ih2=>rw[List.flatMap_cons,ih2];rfl
   ·clear hne
    induction p.txt with
    | nil=>rfl
    | cons b t ih2=>rw[List.flatMap_cons,ih2];rfl
def zAN:List Bs->List Pr->Int
 | ks,[]=>if ks.contains [42]=true then 0 else 8
 | ks,p :: ps=>if (p.1 == [42])=false/\za7 p.1 20 []=false then 6 else if ks.contains p.1=true then 7 else if zcW p.2≠0 then zcW p.2 else zAN (ks ++ [p.1]) ps
def zqU (ps:List Pr):Int:=zAN [] ps
theorem MapK.made (w:World):MapK (w.alloc (.map #[] 0)) w.heap.size []:=heap_alloc_new w _
theorem zkQ (ks:List Bs):zAN ks []=if ks.contains [42]=true then 0 else 8:=rfl
theorem ze6 (ks:List Bs) (p:Pr) (ps:List Pr):zAN ks (p :: ps)=if (p.1 == [42])=false/\za7 p.1 20 []=false then 6 else if ks.contains p.1=true then 7 else if zcW p.2≠0 then zcW p.2 else zAN (ks ++ [p.1]) ps:=rfl
theorem zyP (v:Value) (ps:List Pr) (w:World) (hg:Gnd w) (hv:Prs w v ps) (hn:ps.length<=100000) (hl:∀ p∈ps,p.1.length<=100000/\p.2.length<=100000):Calls Tryz.prog 86 #[v] w fun e w'=>e=.returned (.int .i64 (zqU ps))/\Kept w w':=by
 have HG:=Hd hg;have HV:=Hd hv;have HLL:=Hd hl;obtain ⟨a,c,rfl,hc⟩:=hv.form;have H0:Hid (zqU ps=zAN [] (ps.drop 0)):=rfl;have mk:=fun w=>run_makeMap (P:=Tryz.prog) 73 w;generalize zqU ps=R at *;clear hv hl hg;go_enter Tryz.func86,Tryz.ntmps86;go_wp2_with fail;have HM0:=Hd (MapK.made w);have HK0:=Hd (zaA w (.map #[] 0));generalize w.alloc (.map #[] 0)=w0 at *;obtain ⟨M,HMM⟩:∃ M,Hid (w.heap.size=M):=⟨_,rfl⟩;have hMz:w.heap.size<=M:=(by rw[HMM.out];exact Nat.le_refl _);rw[HMM.out] at HM0 ⊢;go_loopw [11] (fun i wr=>∃ (k:Nat) (ks:List Bs),k<=ps.length/\i=.int .i64 k/\Hid (R=zAN ks (ps.drop k))/\Hid (MapK wr M ks)/\Hid (Kept w wr)) (fun i _=>ps.length - (intOf i).toNat)
 case atStart=>exact ⟨0,[],Nat.zero_le _,rfl,H0.out,HM0.out,HK0.out⟩
 case round =>
  obtain ⟨k,ks,hk,rfl,HA,HM,HKR⟩:=hrel;by_cases hlt:k<ps.length
  ·obtain ⟨p,hx⟩:∃ x,ps[k]? = some x:=⟨_,List.getElem?_eq_getElem hlt⟩;obtain ⟨g,o,rfl,hg,d0,d1,-,-⟩:=(HV.out.kept HKR.out).cell_of k p hx;obtain ⟨hl1,hl2⟩:=HLL.out p (List.mem_of_getElem? hx);have HD:Hid (ps.drop k=p :: ps.drop (k+1)):=by
    show _=_;obtain ⟨hk',rfl⟩:=List.getElem?_eq_some_iff.1 hx;exact List.drop_eq_getElem_cons hk'
   rw[HD.out,ze6] at HA;obtain ⟨x,y⟩:=p;simp only at d0 d1 hl1 hl2 HA;have HS:=Hd (fun w=>zi8 x [] 20 w (by omega));have HSP:=Hd (fun w h=>zgW y w h hl2);unfold SplitP at HSP;have HM1:=Hd (HM.out.kept (zaA wr (.cells #[.string (bs x),.string (bs y)] 62)));have HK1:=Hd (HKR.out.trans (zaA wr (.cells #[.string (bs x),.string (bs y)] 62)));have HB1:=Hd (Blk.new wr 62 #[.string (bs x),.string (bs y)]);have HMR:=HM;clear hx HD HM HKR;by_cases hb:(x == [42])=false/\za7 x 20 []=false
   ·rw[if_pos hb] at HA;obtain ⟨q1,q2⟩:=hb;rw[q2] at HS;clear q2;go_wp2_with fail;refine (HS.out _).mono ?_;rintro e w2 ⟨rfl,hk2⟩;have HK2:=Hd (HK1.out.trans hk2);clear hk2;go_wp2_with fail;go_ret;exact ⟨zaK HA.out.symm,HK2.out⟩
   rw[if_neg hb] at HA;have hb2:(x == [42])=true\/((x == [42])=false/\za7 x 20 []=true):=by
    cases e1:(x == [42])
    ·cases e2:za7 x 20 []
     ·exact absurd ⟨e1,e2⟩ hb
     ·exact .inr ⟨rfl,rfl⟩
    ·exact .inl rfl
   clear hb;have HBM:Hid (M<wr.heap.size):=HMR.out.lt;rcases hb2 with hb1|⟨hb1,hb3⟩
   ·obtain rfl:x=[42]:=(by simpa using hb1);have HMW:=HM1;have HKW:=HK1;have HBW:=HB1;clear hb1 HS HM1 HK1 HB1;have lk:=zvI (wr.alloc (.cells #[.string (bs [42]),.string (bs y)] 62)) M ks [42] HMW.out;cases hct:ks.contains [42] with
    | true =>
     rw[hct] at lk HA;rw[if_pos rfl] at HA;clear hct;go_wp2_with fail;go_ret;exact ⟨zaK HA.out.symm,HKW.out⟩
    | false =>
     have hnm:[42] ∉ ks:=by
      intro q;rw[<- List.contains_iff_mem,hct] at q;cases q
     rw[hct] at lk HA;rw[if_neg (by simp)] at HA;have up:=zEg (wr.alloc (.cells #[.string (bs [42]),.string (bs y)] 62)) M ks [42] HMW.out hnm;have hMlt:=HMW.out.lt;have hne:¬ wr.heap.size=M:=(by have:=HBM.out;omega);have HM3:=Hd (zgS (wr.alloc (.cells #[.string (bs [42]),.string (bs y)] 62)) M (ks ++ [[42]]) hMlt);have HK3:=Hd (zcB HKW.out (zdQ (wr.alloc (.cells #[.string (bs [42]),.string (bs y)] 62)) M (ks ++ [[42]])) hMz);have HB3:=Hd (HBW.out.onl (zdQ (wr.alloc (.cells #[.string (bs [42]),.string (bs y)] 62)) M (ks ++ [[42]])) hne);have v1:(zoK (wr.alloc (.cells #[.string (bs [42]),.string (bs y)] 62)) M (ks ++ [[42]])).cell? ⟨wr.heap.size,1,none⟩=some (.string (bs y)):=HB3.out.cell 1 _ rfl;have zv:=HB3.out.lt;have HSY:=Hd (HSP.out (zoK (wr.alloc (.cells #[.string (bs [42]),.string (bs y)] 62)) M (ks ++ [[42]])) (HG.out.kept HK3.out));clear hct hnm hMlt;by_cases h5:zcW y=0
     case neg =>
      rw[if_pos h5] at HA;generalize zcW y=E at *;have h5':(E == 0)=false:=(by simpa using h5);go_wp2_with fail;refine HSY.out.mono ?_;rintro e w4 ⟨v4,rfl,hp4,hk4⟩;have HK4:=Hd (HK3.out.trans hk4);clear hp4 hk4;go_wp2_with fail;go_ret;exact ⟨zaK HA.out.symm,HK4.out⟩
     rw[if_neg (by simpa using h5)] at HA;rw[h5] at HSY;go_wp2_with fail;refine HSY.out.mono ?_;rintro e w4 ⟨v4,rfl,hp4,hk4⟩;have HK4:=Hd (HK3.out.trans hk4);have HM4:=Hd (HM3.out.kept hk4);obtain ⟨a4,c4,rfl,-⟩:=hp4.form;clear hp4 hk4 v1 zv lk up;go_wp2_with fail;go_roundw
     case rel=>exact ⟨k+1,ks ++ [[42]],by omega,by go_num,HA.out,HM4.out,HK4.out⟩
     case measure=>simp [intOf];omega
   ·rw[hb3] at HS;clear hb3;go_wp2_with fail;refine (HS.out _).mono ?_;rintro e w2 ⟨rfl,hk2⟩;have HKW:=Hd (HK1.out.trans hk2);have HMW:=Hd (HM1.out.kept hk2);have HBW:=Hd (HB1.out.kept hk2);have t0:w2.cell? ⟨wr.heap.size,0,none⟩=some (.string (bs x)):=HBW.out.cell 0 _ rfl;have zt:=HBW.out.lt;clear hk2 HK1 HM1 HB1 d0 d1 hg;obtain ⟨B,HBB⟩:∃ B,Hid (wr.heap.size=B):=⟨_,rfl⟩;rw[HBB.out] at HBW t0 zt HBM ⊢;have lk:=zvI w2 M ks x HMW.out;cases hct:ks.contains x with
    | true =>
     rw[hct] at lk HA;rw[if_pos rfl] at HA;clear hct;go_wp2_with fail;go_ret;exact ⟨zaK HA.out.symm,HKW.out⟩
    | false =>
     have hnm:x ∉ ks:=by
      intro q;rw[<- List.contains_iff_mem,hct] at q;cases q
     rw[hct] at lk HA;rw[if_neg (by simp)] at HA;have up:=zEg w2 M ks x HMW.out hnm;have hMlt:=HMW.out.lt;have hne:¬ B=M:=(by have:=HBM.out;omega);have HM3:=Hd (zgS w2 M (ks ++ [x]) hMlt);have HK3:=Hd (zcB HKW.out (zdQ w2 M (ks ++ [x])) hMz);have HB3:=Hd (HBW.out.onl (zdQ w2 M (ks ++ [x])) hne);have v1:(zoK w2 M (ks ++ [x])).cell? ⟨B,1,none⟩=some (.string (bs y)):=HB3.out.cell 1 _ rfl;have zv:=HB3.out.lt;have HSY:=Hd (HSP.out (zoK w2 M (ks ++ [x])) (HG.out.kept HK3.out));clear hct hnm hMlt;by_cases h5:zcW y=0
     case neg =>
      rw[if_pos h5] at HA;generalize zcW y=E at *;have h5':(E == 0)=false:=(by simpa using h5);go_wp2_with fail;refine HSY.out.mono ?_;rintro e w4 ⟨v4,rfl,hp4,hk4⟩;have HK4:=Hd (HK3.out.trans hk4);clear hp4 hk4;go_wp2_with fail;go_ret;exact ⟨zaK HA.out.symm,HK4.out⟩
     rw[if_neg (by simpa using h5)] at HA;rw[h5] at HSY;go_wp2_with fail;refine HSY.out.mono ?_;rintro e w4 ⟨v4,rfl,hp4,hk4⟩;have HK4:=Hd (HK3.out.trans hk4);have HM4:=Hd (HM3.out.kept hk4);obtain ⟨a4,c4,rfl,-⟩:=hp4.form;clear hp4 hk4 v1 zv lk up;go_wp2_with fail;go_roundw
     case rel=>exact ⟨k+1,ks ++ [x],by omega,by go_num,HA.out,HM4.out,HK4.out⟩
     case measure=>simp [intOf];omega
  ·obtain rfl:k=ps.length:=(by omega);rw[List.drop_of_length_le (Nat.le_refl _),zkQ] at HA;have lk:=zvI wr M ks [42] HM.out;cases hct:ks.contains [42] with
   | true =>
    rw[hct] at lk HA;rw[if_pos rfl] at HA;clear hct;go_wp2_with fail;go_ret;exact ⟨zaK HA.out.symm,HKR.out⟩
   | false =>
    rw[hct] at lk HA;rw[if_neg (by simp)] at HA;clear hct;go_wp2_with fail;go_ret;exact ⟨zaK HA.out.symm,HKR.out⟩
end Go.Proofs.YtmcoomlkbgiboaaGreatDoor
