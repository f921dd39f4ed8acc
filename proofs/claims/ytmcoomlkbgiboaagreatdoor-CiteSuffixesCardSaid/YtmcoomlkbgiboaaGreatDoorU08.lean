/- strings.Builder's WriteString and WriteByte. Conditions: lengths. -/
import Derived.Test.YtmcoomlkbgiboaaGreatDoorU04
import Derived.Test.YtmcoomlkbgiboaaGreatDoorU01
import Derived.Shelf.Strings.Builder1
import Derived.Shelf.Strings.OnBuilder
set_option linter.all false
set_option maxRecDepth 100000
set_option maxHeartbeats 1600000
namespace Go.Proofs
def Tryz.bld166_ren:Go.Shelf.Ren:=⟨fun|166=>63|240=>120|276=>165|n=>n,fun|0=>0|3=>3|4=>4|5=>5|9=>9|20=>20|37=>120|70=>119|72=>122|75=>124|76=>125|80=>127|164=>219|n=>n,fun|n=>n⟩
theorem Tryz.bld166:Lays.n166 Tryz.prog Tryz.bld166_ren:={
 mixed:=by kernel_rfl
 f166:=Tryz.func63.trans (congrArg some (by kernel_rfl))
 f240:=Tryz.func120.trans (congrArg some (by kernel_rfl))
 f276:=Tryz.func165.trans (congrArg some (by kernel_rfl))
 t0:=Tryz.underlying0
 a0:=Tryz.isAgg0
 z0:=Tryz.sizeOf0
 v0:=Tryz.zeroValue0
 t3:=Tryz.underlying3
 a3:=Tryz.isAgg3
 z3:=Tryz.sizeOf3
 v3:=Tryz.zeroValue3
 t4:=Tryz.underlying4
 a4:=Tryz.isAgg4
 z4:=Tryz.sizeOf4
 v4:=Tryz.zeroValue4
 t9:=Tryz.underlying9
 a9:=Tryz.isAgg9
 z9:=Tryz.sizeOf9
 v9:=Tryz.zeroValue9
 t20:=Tryz.underlying20
 a20:=Tryz.isAgg20
 z20:=Tryz.sizeOf20
 v20:=Tryz.zeroValue20
 t37:=Tryz.underlying120
 a37:=Tryz.isAgg120
 z37:=Tryz.sizeOf120
 v37:=Tryz.zeroValue120
 t70:=Tryz.underlying119
 a70:=Tryz.isAgg119
 z70:=Tryz.sizeOf119
 v70:=Tryz.zeroValue119
 t72:=Tryz.underlying122
 a72:=Tryz.isAgg122
 z72:=Tryz.sizeOf122
 v72:=Tryz.zeroValue122
 t75:=Tryz.underlying124
 a75:=Tryz.isAgg124
 z75:=Tryz.sizeOf124
 v75:=Tryz.zeroValue124
 t164:=Tryz.underlying219
 a164:=Tryz.isAgg219
 z164:=Tryz.sizeOf219
 v164:=Tryz.zeroValue219
}
theorem Tryz.bldX166:Builder.Extra Tryz.prog Tryz.bld166_ren:={
 sizeBuilder:=by kernel_rfl
 liesBuilder:=by kernel_rfl
 t5:=Tryz.underlying5
 a5:=Tryz.isAgg5
 z5:=Tryz.sizeOf5
 v5:=Tryz.zeroValue5
 infoByte:=by kernel_rfl
 cellsByte:=by kernel_rfl
 sizeByte:=by kernel_rfl
 neB5:=by decide }
end Go.Proofs
namespace Go.Proofs.YtmcoomlkbgiboaaGreatDoor
open Go.RowKit
theorem zi2 (B b:Nat) (cs:List Value) (l:Bs) (w:World) (h:Lib.IsBuilder 122 5 B b cs w) (hl:cs.length+l.length<=140737488355328) (hB:B<=w.heap.size) :
  Calls Tryz.prog 63 #[.pointer (some ⟨b,0,none⟩),.string (bs l)] w fun e w'=>e=.returned (.tuple #[.int .i64 l.length,.nilIface])/\(Lib.BuilderAt 122 5 B b (.pointer (some ⟨b,0,none⟩)) (cs ++ Lib.byteCells l) w'/\Below B w w') :=
 Any.Builder_WriteString Tryz.bld166 Tryz.bldX166 B b cs (bs l) w h (by simpa using hl) hB
def SliP (xs:List Bs) (w:World) (e:Ending) (w':World):Prop:=∃ v,e=.returned v/\Strs w' v xs/\Kept w w'
def zcU (l:Bs):Nat:=(l.takeWhile (· == 32)).length
def zu7 (t:Bs):Bs:=(t.reverse.dropWhile (· == 32)).reverse
def zxT (l:Bs):Bs:=zu7 (l.drop (zcU l))
theorem zqA:∀ l:Bs,zcU l<=l.length
 | []=>by simp [zcU]
 | b :: l=>by
  have:=zqA l;unfold zcU at this ⊢;rw[List.takeWhile_cons]
  split <;> simp at this ⊢;omega
theorem zqB (l:Bs) (k:Nat) (hk:k<=l.length) (h1:∀ j (hj:j<l.length),j<k->l[j]=32) (h2:∀ h:k<l.length,l[k]≠32):zcU l=k:=by
 induction l generalizing k with
 | nil=>simp at hk;subst hk;rfl
 | cons b l ih =>
  unfold zcU;cases k with
  | zero =>
   have:=h2 (by simp);simp at this;rw[List.takeWhile_cons,if_neg (by simpa using this)];rfl
  | succ k =>
   have hb:=h1 0 (by simp) (by omega);simp at hb;rw[List.takeWhile_cons,if_pos (by simpa using hb),List.length_cons];congr 1;exact ih k (by simpa using hk) (fun j hj hjk=>by have:=h1 (j+1) (by simpa using hj) (by omega);simpa using this) (fun h=>by have:=h2 (by simpa using h);simpa using this)
theorem ztO (t:Bs) (n:Nat) (hn:n<=t.length) (h1:∀ b∈t.drop n,b=32) (h2:∀ h:0<n,t[n - 1]'(by omega)≠32):zu7 t=t.take n:=by
 unfold zu7;have e:t.reverse=(t.drop n).reverse ++ (t.take n).reverse:=(by rw[<- List.reverse_append,List.take_append_drop]);have e2:∀ (xs ys:Bs),(∀ b∈xs,b=32)->(xs ++ ys).dropWhile (· == 32)=ys.dropWhile (· == 32):=by
  intro xs ys
  induction xs with
  | nil=>intro _;rfl
  | cons b xs ih =>
   intro h;have hb:=h b (by simp);rw[List.cons_append,List.dropWhile_cons,if_pos (by simpa using hb)];exact ih (fun c hc=>h c (by simp [hc]))
 rw[e,e2 _ _ (fun b hb=>h1 b (by simpa using hb))];have e3:(t.take n).reverse.dropWhile (· == 32)=(t.take n).reverse:=by
  by_cases q:n=0
  ·subst q;simp
  ·have hlast:t.take n=t.take (n - 1) ++ [t[n - 1]'(by omega)]:=by
    have:=List.take_succ_eq_append_getElem (l:=t) (i:=n - 1) (by omega);rw[show n - 1+1=n from by omega] at this;exact this
   rw[hlast,List.reverse_append];simp only[List.reverse_cons,List.reverse_nil,List.nil_append,List.singleton_append];rw[List.dropWhile_cons,if_neg (by simpa using h2 (by omega))]
 rw[e3,List.reverse_reverse]
theorem zu8 (l:Bs) (w:World) (hs:l.length<=1100000):Calls Tryz.prog 219 #[.string (bs l)] w fun e w'=>e=.returned (.int .i64 (zcU l))/\w=w':=by
 go_enter Tryz.func219,Tryz.ntmps219;go_wp2_with fail
 go_loop [3] (fun i=>∃ k:Nat,k<=l.length/\i=.int .i64 k/\Hid (∀ j (hj:j<l.length),j<k->l[j]=32)) (fun i=>l.length - (intOf i).toNat)
 case atStart=>exact ⟨0,Nat.zero_le _,rfl,fun j hj h=>by omega⟩
 case round =>
  obtain ⟨k,hk,rfl,HA⟩:=hrel;by_cases hlt:k<l.length
  ·have i0:=zd3 (P:=Tryz.prog) (t:=9) Tryz.underlying9 l k hlt k rfl;have HC:Hid (at8 l k=32↔l[k]=32):=(by show _↔_;rw[zbI l k hlt];exact zgB _ 32 (by decide));by_cases hb:at8 l k=32
   ·have HN:Hid (∀ j (hj:j<l.length),j<k+1->l[j]=32):=by
     intro j hj hjk;by_cases q:j<k
     ·exact HA.out j hj q
     ·obtain rfl:j=k:=(by omega);exact HC.out.1 hb
    have hb':(at8 l k == 32)=true:=(by simpa using hb);generalize at8 l k=b at *;clear hb HC HA;go_wp2_with fail
    go_round
    case rel=>exact ⟨k+1,by omega,by go_num,HN.out⟩
    case measure=>simp [intOf];omega
   ·have HF:Hid (zcU l=k):=zqB l k hk HA.out (fun _ q=>hb (HC.out.2 q));have hb':(at8 l k == 32)=false:=(by simpa using hb);generalize at8 l k=b at *;clear hb HC HA;go_wp2_with fail;go_ret;exact ⟨zaK (by rw[HF.out]),rfl⟩
  ·have HF:Hid (zcU l=k):=zqB l k hk HA.out (fun h=>absurd h hlt);clear HA;go_wp2_with fail;go_ret;exact ⟨zaK (by rw[HF.out]),rfl⟩
theorem zA7 (l:Bs) (w:World) (hs:l.length<=1100000):Calls Tryz.prog 172 #[.string (bs l)] w fun e w'=>e=.returned (.string (bs (zxT l)))/\w=w':=by
 have hil:=zqA l;have HI:=Hd (fun w=>zu8 l w hs);have sl:=zfM (P:=Tryz.prog) (t:=9) Tryz.underlying9 l (zcU l) hil (zcU l) rfl _ rfl;have HT:Hid (zxT l=zu7 (l.drop (zcU l))):=rfl;have htl:(l.drop (zcU l)).length<=1100000:=(by simp;omega);generalize l.drop (zcU l)=t at *;generalize zcU l=n0 at *;go_enter Tryz.func172,Tryz.ntmps172;go_wp2_with fail;refine (HI.out _).mono ?_;rintro e w' ⟨rfl,rfl⟩;go_wp2_with fail;clear sl
 go_loop [0] (fun s=>∃ n:Nat,n<=t.length/\s=.string (bs (t.take n))/\Hid (∀ b∈t.drop n,b=32)) (fun s=>match s with|.string b=>b.size|_=>0)
 case atStart=>exact ⟨t.length,Nat.le_refl _,by rw[List.take_of_length_le (Nat.le_refl _)],fun b hb=>by rw[List.drop_of_length_le (Nat.le_refl _)] at hb;cases hb⟩
 case round =>
  obtain ⟨n,hn,rfl,HA⟩:=hrel;have hlen:(t.take n).length=n:=(by simp;omega);have HLEN:=Hd hlen;by_cases h0:n=0
  ·subst h0;have HF:Hid (zu7 t=t.take 0):=ztO t 0 (by omega) HA.out (fun h=>by omega);clear HA hlen;simp only[List.take_zero];go_wp2_with fail;go_ret;exact ⟨zb1 (by rw[HT.out,HF.out];rfl),rfl⟩
  ·have hlt:n - 1<(t.take n).length:=(by omega);have i0:=zd3 (P:=Tryz.prog) (t:=9) Tryz.underlying9 (t.take n) (n - 1) hlt ((t.take n).length - 1) (by omega);have su:=zkH (P:=Tryz.prog) (t:=9) Tryz.underlying9 (t.take n) (n - 1) (by omega) ((t.take n).length - 1) (by omega) (t.take (n - 1)) (by rw[List.take_take];congr 1;omega);have hn1:n - 1<t.length:=(by omega);have HC:Hid (at8 (t.take n) (n - 1)=32↔t[n - 1]'hn1=32):=by
    show _↔_;rw[zbI _ _ hlt,List.getElem_take];exact zgB _ 32 (by decide)
   have hpos:0<(t.take n).length:=(by omega);have hne:¬ t.take n=[]:=(by intro q;rw[q] at hpos;simp at hpos);have hle:(t.take n).length<=1100000:=(by omega);generalize hx:at8 (t.take n) (n - 1)=b at *;clear hx hlen;by_cases hb:b=32
   ·have HN:Hid (∀ b∈t.drop (n - 1),b=32):=by
     intro c hc;have e:t.drop (n - 1)=t[n - 1]'(by omega) :: t.drop n:=by
      rw[List.drop_eq_getElem_cons (by omega)];congr 2;omega
     rw[e] at hc;rcases List.mem_cons.1 hc with h|h
     ·rw[h];exact HC.out.1 hb
     ·exact HA.out c h
    have HM:Hid ((t.take (n - 1)).length<(t.take n).length):=(by show _<_;simp;omega);have hb':(b == 32)=true:=(by simpa using hb);clear hb HC HA;generalize hx:t.take n=s at *;clear hx;go_wp2_with fail
    go_round
    case rel=>exact ⟨n - 1,by omega,rfl,HN.out⟩
    case measure=>simpa using HM.out
   ·have HF:Hid (zu7 t=t.take n):=ztO t n hn HA.out (fun _ q=>hb (HC.out.2 q));have hb':(b == 32)=false:=(by simpa using hb);clear hb HC HA;generalize hx:t.take n=s at *;clear hx;go_wp2_with fail;go_ret;exact ⟨zb1 (by rw[HT.out,HF.out]),rfl⟩
abbrev Pr:=Bs × Bs
def Prs (w:World) (v:Value) (ps:List Pr):Prop :=
 ∃ a c,v=.slice a ps.length c/\ps.length<=c/\(0<ps.length->∃ g o,a=some ⟨g,o,none⟩/\g<w.heap.size/\∀ j q,ps[j]? = some q ->
  w.cell? ⟨g,o+j * 2,none⟩=some (.string (bs q.1))/\w.cell? ⟨g,o+j * 2+1,none⟩=some (.string (bs q.2)))
theorem Prs.kept {w w':World} {v:Value} {ps:List Pr} (h:Prs w v ps) (k:Kept w w'):Prs w' v ps:=by
 obtain ⟨a,c,hv,hc,h3⟩:=h;refine ⟨a,c,hv,hc,fun q=>?_⟩;obtain ⟨g,o,ha,hg,hcell⟩:=h3 q;refine ⟨g,o,ha,Nat.lt_of_lt_of_le hg k.size,fun j x hx=>?_⟩;obtain ⟨c0,c1⟩:=hcell j x hx;exact ⟨(k.cell (p:=⟨g,o+j * 2,none⟩) hg).trans c0,(k.cell (p:=⟨g,o+j * 2+1,none⟩) hg).trans c1⟩
def zm9 (ps:List Pr) (k:Bs):Bool:=ps.any fun q=>q.1 == k
theorem zxU (ps:List Pr) (k:Bs) (n:Nat) (q:Pr) (h:ps[n]? = some q):zm9 (ps.take (n+1)) k=(zm9 (ps.take n) k || q.1 == k):=by
 unfold zm9;obtain ⟨hk,rfl⟩:=List.getElem?_eq_some_iff.1 h;rw[List.take_succ_eq_append_getElem hk,List.any_append];simp only[List.any_cons,List.any_nil,Bool.or_false]
theorem zxV (ps:List Pr) (k:Bs) (n:Nat) (h:zm9 (ps.take n) k=true):zm9 ps k=true:=by
 unfold zm9 at h ⊢;rw[List.any_eq_true] at h ⊢;obtain ⟨x,hx,e⟩:=h;exact ⟨x,List.mem_of_mem_take hx,e⟩
theorem zA8 (x y k:Bs) (b:Nat) (w:World) (hc:w.cell? ⟨b,0,none⟩=some (.string (bs k))) :
  Calls Tryz.prog 221 #[.agg #[.string (bs x),.string (bs y)],.pointer (some ⟨b,0,none⟩)] w fun e w'=>e=.returned (.bool (x == k))/\Kept w w':=by
 have hb:=World.block_lt_of_cell? w (a:=⟨b,0,none⟩) hc;simp only at hb;by_cases h:x=k
 ·subst h;go_enter Tryz.func221,Tryz.ntmps221;go_wp2_with fail;go_ret;exact ⟨zaO (by simp),zaA _ _⟩
 ·have h':(x == k)=false:=(by simpa using h);go_enter Tryz.func221,Tryz.ntmps221;go_wp2_with fail;go_ret;exact ⟨zaO (by simp [h']),zaA _ _⟩
def FoundPost (ps:List Pr) (k:Bs) (w:World) (e:Ending) (w':World):Prop:=∃ r:Int,e=.returned (.int .i64 r)/\decide (0<=r)=zm9 ps k/\Kept w w'
theorem zoF (v:Value) (ps:List Pr) (k:Bs) (b:Nat) (w:World) (hv:Prs w v ps) (hN:ps.length<=1100000) (hc:w.cell? ⟨b,0,none⟩=some (.string (bs k))) :
  Calls Tryz.prog 262 #[v,.func (Fn.func 221) #[] #[.pointer (some ⟨b,0,none⟩)]] w (FoundPost ps k w):=by
 have HV:=Hd hv;have HC:=Hd hc;have hb:=World.block_lt_of_cell? w (a:=⟨b,0,none⟩) hc;simp only at hb;clear hc;obtain ⟨a,c,rfl,hc,h3⟩:=hv;clear h3;go_enter Tryz.func262,Tryz.ntmps262;go_wp2_with fail;go_loopw [8] (fun i wr=>∃ n:Nat,n<=ps.length/\i=.int .i64 n/\Hid (zm9 (ps.take n) k=false)/\Kept w wr) (fun i _=>ps.length - (intOf i).toNat)
 case atStart=>exact ⟨0,Nat.zero_le _,rfl,rfl,Kept.refl _⟩
 case round =>
  obtain ⟨n,hn,rfl,HN,hkr⟩:=hrel;by_cases hlt:n<ps.length
  ·obtain ⟨q,hx⟩:∃ x,ps[n]? = some x:=⟨_,List.getElem?_eq_getElem hlt⟩;obtain ⟨a',c',hv',hc',h3⟩:=HV.out.kept hkr;obtain ⟨rfl,hdead,rfl⟩:=Value.slice.inj hv';clear hdead;obtain ⟨g,o,rfl,hg,hcc⟩:=h3 (by omega);obtain ⟨c0,c1⟩:=hcc n q hx;have HS:=Hd (zxU ps k n q hx);have HM:=Hd (zxV ps k (n+1));have HCL:=Hd (zA8 q.1 q.2 k b wr ((hkr.cell (p:=⟨b,0,none⟩) hb).trans HC.out));have HR:=Hd hkr;rw[HN.out,Bool.false_or] at HS;clear hkr hcc h3 hv' hc' hx HN;obtain ⟨x,y⟩:=q;simp only at c0 c1 HS HCL;cases hxk:(x == k)
   ·rw[hxk] at HS HCL;go_wp2_with fail;refine HCL.out.mono ?_;rintro e w1 ⟨rfl,hk1⟩;have HR1:=Hd (HR.out.trans hk1);clear hk1;go_wp2_with fail;go_roundw
    case rel=>exact ⟨n+1,by omega,by go_num,HS.out,HR1.out⟩
    case measure=>simp [intOf];omega
   ·rw[hxk] at HS HCL;go_wp2_with fail;refine HCL.out.mono ?_;rintro e w1 ⟨rfl,hk1⟩;have HR1:=Hd (HR.out.trans hk1);clear hk1;go_wp2_with fail;go_ret;exact ⟨n,rfl,by rw[HM.out HS.out];simp,HR1.out⟩
  ·have HE:Hid (zm9 ps k=false):=(by have h:=HN.out;rw[List.take_of_length_le (by omega)] at h;exact h);have HR:=Hd hkr;clear hkr HN;go_wp2_with fail;go_ret;exact ⟨-1,rfl,by rw[HE.out];rfl,HR.out⟩
theorem zjY (v:Value) (ps:List Pr) (k:Bs) (w:World) (hv:Prs w v ps) (hN:ps.length<=1100000) :
  Calls Tryz.prog 173 #[v,.string (bs k)] w fun e w'=>e=.returned (.bool (zm9 ps k))/\Kept w w':=by
 have HCF:Hid (∀ (b:Nat) (w:World),Prs w v ps->w.cell? ⟨b,0,none⟩=some (.string (bs k))->Calls Tryz.prog 220 #[v,.func (Fn.func 221) #[] #[.pointer (some ⟨b,0,none⟩)]] w fun e w'=>e=.returned (.bool (zm9 ps k))/\Kept w w'):=by
  intro b w hv hc;have HI:=Hd (zoF v ps k b w hv hN hc);obtain ⟨hb,HB⟩:∃ hb,Hid (zm9 ps k=hb):=⟨_,rfl⟩;unfold FoundPost at HI;rw[HB.out];rw[HB.out] at HI;obtain ⟨a,c,rfl,hcl,h3⟩:=hv;clear h3 hc;go_enter Tryz.func220,Tryz.ntmps220;go_wp2_with fail;refine HI.out.mono ?_;rintro e w1 ⟨r,rfl,hr,hk1⟩;have HK:=Hd hk1;clear hk1;cases hb
  ·go_wp2_with fail;go_ret;exact ⟨zaO (by simpa using hr),HK.out⟩
  ·go_wp2_with fail;go_ret;exact ⟨zaO (by simpa using hr),HK.out⟩
 have HV:=Hd hv;obtain ⟨a,c,rfl,hc,h3⟩:=hv;clear h3;obtain ⟨hb,HB⟩:∃ hb,Hid (zm9 ps k=hb):=⟨_,rfl⟩;rw[HB.out] at HCF ⊢;go_enter Tryz.func173,Tryz.ntmps173;go_wp2_with fail;refine (HCF.out w.heap.size _ (HV.out.kept (zaA _ _)) (by have h:=(Blk.new w 9 #[.string (bs k)]).cell 0 _ rfl;exact h)).mono ?_;rintro e w1 ⟨rfl,hk1⟩;have HK:=Hd ((zaA w _).trans hk1);clear hk1;go_wp2_with fail;go_ret;exact ⟨rfl,HK.out⟩
def za5 (ps:List Pr) (k:Bs):Option Bs:=(ps.find? fun q=>q.1 == k).map (·.2)
def zcV (ps:List Pr):List Value:=ps.flatMap fun q=>[.string (bs q.1),.string (bs q.2)]
theorem zu9 (ps:List Pr) (q:Pr):zcV (ps ++ [q])=zcV ps ++ [.string (bs q.1),.string (bs q.2)]:=by simp [zcV]
theorem zA9 (ps:List Pr) (j:Nat) (q:Pr) (h:ps[j]? = some q):(zcV ps)[j * 2]? = some (.string (bs q.1))/\(zcV ps)[j * 2+1]? = some (.string (bs q.2)):=by
 induction ps generalizing j with
 | nil=>cases h
 | cons p ps ih =>
  have e:zcV (p :: ps)=[.string (bs p.1),.string (bs p.2)] ++ zcV ps:=(by simp [zcV]);rw[e];cases j with
  | zero=>cases h;exact ⟨rfl,rfl⟩
  | succ j =>
   have:=ih j (by simpa using h);rw[List.getElem?_append_right (by simp;omega),List.getElem?_append_right (by simp;omega)];simp only[List.length_cons,List.length_nil];rw[show (j+1) * 2 - (0+1+1)=j * 2 from by omega,show (j+1) * 2+1 - (0+1+1)=j * 2+1 from by omega];exact this
theorem Prs.own {w:World} {base:Nat} {e:TypeId} {v:Value} {ps:List Pr} (h:w.ownsRow base e 2 v ps.length (zcV ps)):Prs w v ps:=by
 obtain ⟨a,c,hv,hc,_,h3⟩:=za1 h;refine ⟨a,c,hv,hc,fun q=>?_⟩;obtain ⟨g,ha,_,hg,hcell⟩:=h3 q;refine ⟨g,0,ha,hg,fun j x hx=>?_⟩;obtain ⟨c0,c1⟩:=zA9 ps j x hx;simp only[Nat.zero_add];exact ⟨hcell _ _ c0,hcell _ _ c1⟩
theorem Tryz.infoPair:(Tryz.prog.info? 62).map (fun i=>(i.zero,i.size,i.bytes))=some (some (.agg #[.string ⟨#[]⟩,.string ⟨#[]⟩]),2,32):=by kernel_rfl
theorem zxW (g o j:Nat):((⟨g,o,none⟩:Addr).add j)=⟨g,o+j,none⟩:=by unfold Addr.add;split <;> simp_all
theorem znA (w:World) (g:Nat) (ps:List Pr):∀ (o:Nat),(∀ j q,ps[j]? = some q->w.cell? ⟨g,o+j * 2,none⟩=some (.string (bs q.1))/\w.cell? ⟨g,o+j * 2+1,none⟩=some (.string (bs q.2))) ->
  ∀ j u,(zcV ps)[j]? = some u->w.cell? ⟨g,o+j,none⟩=some u:=by
 induction ps with
 | nil=>intro o _ j u h;cases h
 | cons p ps ih =>
  intro o hc j u h;have e:zcV (p :: ps)=.string (bs p.1) :: .string (bs p.2) :: zcV ps:=(by simp [zcV]);rw[e] at h;obtain ⟨c0,c1⟩:=hc 0 p rfl;simp only[Nat.zero_mul,Nat.add_zero] at c0 c1
  match j with
  | 0=>simp at h;subst h;exact c0
  | 1=>simp at h;subst h;exact c1
  | j+2 =>
   have:=ih (o+2) (fun i q hq=>by
    have h4:=hc (i+1) q (by simpa using hq);rw[show o+(i+1) * 2=o+2+i * 2 from by omega] at h4;exact h4) j u (by simpa using h)
   rw[show o+(j+2)=o+2+j from by omega];exact this
theorem zqC (ps:List Pr):(zcV ps).length=ps.length * 2:=by
 induction ps with
 | nil=>rfl
 | cons p ps ih =>
    have e:zcV (p :: ps)=.string (bs p.1) :: .string (bs p.2) :: zcV ps:=(by simp [zcV]);rw[e];simp only[List.length_cons,ih];omega
theorem zqD (ps:List Pr):∀ u∈zcV ps,u.oneCell'=true:=by
 intro u hu;unfold zcV at hu;rw[List.mem_flatMap] at hu;obtain ⟨q,_,hq⟩:=hu;simp at hq;rcases hq with rfl|rfl <;> rfl
theorem Prs.news {w:World} {ad:Addr} {n c:Nat} {ps:List Pr} (h:Prs w (.slice (some ad) n c) ps):∀ j u,(zcV ps)[j]? = some u->w.cell? (ad.add j)=some u:=by
 intro j u hu;obtain ⟨a,c',hv,_,h3⟩:=h;obtain ⟨rfl,_,_⟩:=Value.slice.inj hv;have hp:0<ps.length:=by
  cases ps with
  | nil=>cases hu
  | cons p ps=>simp
 obtain ⟨g,o,ha,_,hc⟩:=h3 hp;cases ha;rw[zxW];exact znA w g ps o hc j u hu
theorem Prs.none_ (w:World):Prs w (.slice none 0 0) []:=⟨none,0,rfl,Nat.le_refl _,fun q=>absurd q (by simp)⟩
end Go.Proofs.YtmcoomlkbgiboaaGreatDoor
