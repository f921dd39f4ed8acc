/- Parts of the reference of styles. Conditions: lengths. -/
import Derived.Test.YtmcoomlkbgiboaaGreatDoorV18
import Derived.Test.YtmcoomlkbgiboaaGreatDoorV33
import Derived.Test.YtmcoomlkbgiboaaGreatDoorV15
import Derived.Test.YtmcoomlkbgiboaaGreatDoorV19
import Derived.Test.YtmcoomlkbgiboaaGreatDoorV22
import Derived.Test.YtmcoomlkbgiboaaGreatDoorV25
import Derived.Test.YtmcoomlkbgiboaaGreatDoorV26
import Derived.Test.YtmcoomlkbgiboaaGreatDoorV04
import Derived.Test.YtmcoomlkbgiboaaGreatDoorV03
set_option linter.all false
set_option maxRecDepth 100000
set_option maxHeartbeats 12800000
namespace Go.Proofs.YtmcoomlkbgiboaaGreatDoor
open Go.RowKit
def rpC (ps:List Rp):List Value:=ps.flatMap fun q=>[.string (bs q.txt),.string (bs q.fld),.int .i64 (q.grp:Int)]
theorem zCI (ps:List Rp) (q:Rp):rpC (ps ++ [q])=rpC ps ++ [.string (bs q.txt),.string (bs q.fld),.int .i64 (q.grp:Int)]:=by simp [rpC]
theorem zFa (ps:List Rp) (j:Nat) (q:Rp) (h:ps[j]? = some q):(rpC ps)[j * 3]? = some (.string (bs q.txt))/\(rpC ps)[j * 3+1]? = some (.string (bs q.fld))/\(rpC ps)[j * 3+2]? = some (.int .i64 (q.grp:Int)):=by
 induction ps generalizing j with
 | nil=>cases h
 | cons p ps ih =>
  have e:rpC (p :: ps)=[.string (bs p.txt),.string (bs p.fld),.int .i64 (p.grp:Int)] ++ rpC ps:=(by simp [rpC]);rw[e];cases j with
  | zero =>
   simp at h;subst h;exact ⟨rfl,rfl,rfl⟩
  | succ j =>
   obtain ⟨h0,h1,h2⟩:=ih j (by simpa using h);rw[List.getElem?_append_right (by simp;omega),List.getElem?_append_right (by simp;omega),List.getElem?_append_right (by simp;omega)];simp only[List.length_cons,List.length_nil];rw[show (j+1) * 3 - (0+1+1+1)=j * 3 by omega,show (j+1) * 3+1 - (0+1+1+1)=j * 3+1 by omega,show (j+1) * 3+2 - (0+1+1+1)=j * 3+2 by omega];exact ⟨h0,h1,h2⟩
def Rps (w:World) (v:Value) (ps:List Rp):Prop :=
 ∃ a c,v=.slice a ps.length c/\ps.length<=c/\(0<ps.length->∃ g o,a=some ⟨g,o,none⟩/\g<w.heap.size/\∀ j q,ps[j]? = some q ->
  w.cell? ⟨g,o+j * 3,none⟩=some (.string (bs q.txt))/\w.cell? ⟨g,o+j * 3+1,none⟩=some (.string (bs q.fld))/\w.cell? ⟨g,o+j * 3+2,none⟩=some (.int .i64 (q.grp:Int)))
theorem Rps.kept {w w':World} {v:Value} {ps:List Rp} (h:Rps w v ps) (k:Kept w w'):Rps w' v ps:=by
 obtain ⟨a,c,hv,hc,h3⟩:=h;refine ⟨a,c,hv,hc,fun q=>?_⟩;obtain ⟨g,o,ha,hg,hcell⟩:=h3 q;refine ⟨g,o,ha,Nat.lt_of_lt_of_le hg k.size,fun j x hx=>?_⟩;obtain ⟨c0,c1,c2⟩:=hcell j x hx;exact ⟨(k.cell (p:=⟨g,o+j * 3,none⟩) hg).trans c0,(k.cell (p:=⟨g,o+j * 3+1,none⟩) hg).trans c1,(k.cell (p:=⟨g,o+j * 3+2,none⟩) hg).trans c2⟩
theorem Rps.own {w:World} {base:Nat} {e:TypeId} {v:Value} {ps:List Rp} (h:w.ownsRow base e 3 v ps.length (rpC ps)):Rps w v ps:=by
 obtain ⟨a,c,hv,hc,_,h3⟩:=zaV h;refine ⟨a,c,hv,hc,fun q=>?_⟩;obtain ⟨g,ha,_,hg,hcell⟩:=h3 q;refine ⟨g,0,ha,hg,fun j x hx=>?_⟩;obtain ⟨c0,c1,c2⟩:=zFa ps j x hx;simp only[Nat.zero_add];exact ⟨hcell _ _ c0,hcell _ _ c1,hcell _ _ c2⟩
theorem Rps.form {w:World} {v:Value} {ps:List Rp} (h:Rps w v ps):∃ a c,v=.slice a ps.length c/\ps.length<=c:=by
 obtain ⟨a,c,hv,hc,_⟩:=h;exact ⟨a,c,hv,hc⟩
theorem Rps.cell_of {w:World} {a:Option Addr} {n c:Nat} {ps:List Rp} (h:Rps w (.slice a n c) ps) (k:Nat) (q:Rp) (hx:ps[k]? = some q) :
  ∃ g o,a=some ⟨g,o,none⟩/\g<w.heap.size/\w.cell? ⟨g,o+k * 3,none⟩=some (.string (bs q.txt))/\w.cell? ⟨g,o+k * 3+1,none⟩=some (.string (bs q.fld))/\w.cell? ⟨g,o+k * 3+2,none⟩=some (.int .i64 (q.grp:Int)):=by
 obtain ⟨a',c',hv,hc,h3⟩:=h;obtain ⟨rfl,rfl,rfl⟩:=Value.slice.inj hv;obtain ⟨hk,_⟩:=List.getElem?_eq_some_iff.1 hx;obtain ⟨g,o,ha,hg,hcell⟩:=h3 (by omega);obtain ⟨c0,c1,c2⟩:=hcell k q hx;exact ⟨g,o,ha,hg,c0,c1,c2⟩
theorem Tryz.infoRp:(Tryz.prog.info? 205).map (fun i=>(i.zero,i.size,i.bytes))=some (some (.agg #[.string ⟨#[]⟩,.string ⟨#[]⟩,.int .i64 0]),3,40):=by kernel_rfl
theorem zcT (w:World) {ops:Array Oper} {rest:List Oper} {o:Oper} {a:Act} {Q:Exit->Act->World->Prop} (hgd:o.guard=none) (s x:Operand)
  (ho:o.op=.call { callee:=.builtin .append,args:=#[s,x],argTypes:=#[167,167] })
  (base:Nat) (v:Value) (ps:List Rp) (hs:a.eval s=v) (hown:w.ownsRow base 205 3 v ps.length (rpC ps)) (q:Rp) (g:Nat) (hx:a.eval x=.slice (some ⟨g,0,none⟩) 1 1)
  (hb:Blk w g 205 #[.string (bs q.txt),.string (bs q.fld),.int .i64 (q.grp:Int)]) (hl:ps.length<=1000000) (hbase:base<=w.heap.size)
  (h:∀ v' w',w'.ownsRow base 205 3 v' (ps ++ [q]).length (rpC (ps ++ [q]))->w.grownBy w' v.ownBlock->wpList Tryz.prog ops Q rest (a.put o.dst v') w') :
  wpList Tryz.prog ops Q (o :: rest) a w:=by
 obtain ⟨i0,hi,hz0,hz1,hz2⟩:=info_parts Tryz.infoRp;refine wpList_append_lies w hgd s x 167 ho base 205 i0 (.agg #[.string ⟨#[]⟩,.string ⟨#[]⟩,.int .i64 0]) 3 40 Tryz.underlying167 hi hz0 hz1 hz2 rfl (by decide) v ps.length (rpC ps) hs hown ⟨g,0,none⟩ 1 1 [.string (bs q.txt),.string (bs q.fld),.int .i64 (q.grp:Int)] hx rfl (fun j u hu=>?_) (fun u hu=>?_) (by decide) (by unfold maxLen;omega) (by omega) hbase w.heap.size rfl (fun g' cap w' h1 h2 _ _=>h _ w' ?_ h2)
 ·rw[zlY,Nat.zero_add]
  match j with
  | 0=>cases hu;exact hb.cell 0 _ rfl
  | 1=>cases hu;exact hb.cell 1 _ rfl
  | 2=>cases hu;exact hb.cell 2 _ rfl
  | j+3=>simp at hu
 ·simp at hu;rcases hu with rfl|rfl|rfl <;> rfl
 ·rw[zCI,List.length_append];exact h1
def ztR (l:Bs):Nat:=(l.takeWhile zd6).length
theorem zmS {r:Bs} {j:Nat} (h:∀ i (hi:i<r.length),i<j->zd6 r[i]=true) (hj:j<=r.length) (hn:∀ (hi:j<r.length),zd6 r[j]=false):ztR r=j:=by
 induction r generalizing j with
 | nil=>simp at hj;subst hj;rfl
 | cons b r ih =>
  cases j with
  | zero =>
   have:=hn (by simp);simp only[List.getElem_cons_zero] at this;unfold ztR;rw[List.takeWhile_cons,this];rfl
  | succ j =>
   have h0:=h 0 (by simp) (by omega);simp only[List.getElem_cons_zero] at h0;have:=ih (j:=j) (fun i hi hij=>by have:=h (i+1) (by simp;omega) (by omega);simpa using this) (by simpa using hj) (fun hi=>by have:=hn (by simp;omega);simpa using this);unfold ztR at this ⊢;rw[List.takeWhile_cons,h0,if_pos rfl,List.length_cons,this]
theorem zmT {c:UInt8} {r:Bs} {j:Nat} (h:∀ i (hi:i<r.length),i<j->r[i]≠c) (hj:j<r.length) (he:r[j]=c):zaO c r=j:=by
 rcases Nat.lt_trichotomy (zaO c r) j with q|q|q
 ·exact absurd (zlM c r (by omega)) (h _ (by omega) q)
 ·exact q
 ·exact absurd he (zsT c r j q hj)
theorem zmU {b:UInt8} (h:zd6 b=true):b≠125:=by
 rintro rfl;exact absurd h (by decide)
theorem zCJ (r:Bs):(zaO 125 r<r.length/\zbA (r.take (zaO 125 r)) 20 []=true)↔(1<=ztR r/\ztR r<=20/\∃ h:ztR r<r.length,r[ztR r]=125):=by
 have hall:∀ i (hi:i<r.length),i<ztR r->zd6 r[i]=true:=by
  intro i hi hl;unfold ztR at hl;have h1:(r.takeWhile zd6)[i]'hl∈r.takeWhile zd6:=List.getElem_mem hl;have h2:=List.all_eq_true.1 (List.all_takeWhile (p:=zd6) (l:=r)) _ h1;have h3:(r.takeWhile zd6)[i]'hl=r[i]:=List.IsPrefix.getElem (List.takeWhile_prefix _) hl
  rwa [h3] at h2
 constructor
 ·rintro ⟨h1,h2⟩;have h3:=zlM 125 r h1;unfold zbA at h2;rw[Bool.and_eq_true,Bool.and_eq_true,decide_eq_true_eq,decide_eq_true_eq,List.all_eq_true,List.length_take] at h2;obtain ⟨a1,a2,a3⟩:=h2;have hlow:∀ i (hi:i<r.length),i<zaO 125 r->zd6 r[i]=true:=fun i hi hb=>by
   have:=a3 r[i] (List.mem_take_iff_getElem.2 ⟨i,by omega,rfl⟩);simpa using this
  have e:ztR r=zaO 125 r:=zmS hlow (by omega) (fun hi=>by rw[h3];decide);rw[e];exact ⟨by omega,by omega,h1,h3⟩
 ·rintro ⟨h1,h2,h3,h4⟩;have e:zaO 125 r=ztR r:=zmT (fun i hi hl=>zmU (hall i hi hl)) h3 h4;rw[e];refine ⟨h3,?_⟩;unfold zbA;rw[Bool.and_eq_true,Bool.and_eq_true,decide_eq_true_eq,decide_eq_true_eq,List.all_eq_true,List.length_take];refine ⟨by omega,by omega,fun b hb=>?_⟩;obtain ⟨i,hi,e⟩:=List.mem_take_iff_getElem.1 hb;rw[<- e,hall i (by omega) (by omega)];rfl
def PartsP (S:Option (List Rp)) (w:World) (e:Ending) (w':World):Prop:=∃ v,e=.returned (.tuple #[v,.bool S.isSome])/\v.oneCell'=true/\(∀ l,S=some l->Rps w' v l)/\Kept w w'
theorem zpU (ps:List Rp) (q:Rp) (o:Option (List Rp)):(o.map fun l=>q :: l).map (ps ++ ·)=o.map ((ps ++ [q]) ++ ·):=by
 cases o <;> simp
theorem zoH (t:Bs) (w:World) (ht:t.length<=100000):Calls Tryz.prog 111 #[.string (bs t)] w (PartsP (znD t) w):=by
 have H5:Hid (znD t=none->∀ w',Kept w w'->PartsP (znD t) w (.returned (.tuple #[.slice none 0 0,.bool false])) w'):=fun h w' k=>by
  rw[h];exact ⟨_,rfl,rfl,(fun l q=>by cases q),k⟩
 have H6:Hid (znD t=none->∀ v w',v.oneCell'=true->Kept w w'->PartsP (znD t) w (.returned (.tuple #[v,.bool false])) w'):=fun h v w' hv k=>by
  rw[h];exact ⟨_,rfl,hv,(fun l q=>by cases q),k⟩
 have HOK:Hid (∀ l,znD t=some l->∀ w' v,Rps w' v l->Kept w w'->PartsP (znD t) w (.returned (.tuple #[v,.bool true])) w'):=fun l h w' v hp k=>by
  rw[h];refine ⟨v,rfl,?_,(fun l' q=>by cases q;exact hp),k⟩;obtain ⟨a,c,rfl,_⟩:=hp.form;rfl
 have H0:Hid (znD t=(zkK (t.length+1) (t.drop 0) 0 0).map (([]:List Rp) ++ ·)):=by
  show _=_;rw[zzE,List.drop_zero];cases zkK (t.length+1) t 0 0 <;> simp
 generalize hP:PartsP (znD t) w=P at *;generalize znD t=S at *;clear hP;go_enter Tryz.func111,Tryz.ntmps111;go_wp2_with fail;go_loopw [4,5,6,7] (fun ov gv hv iv wr=>∃ (f:Nat) (ps:List Rp) (G g i:Nat),gv=.int .i64 G/\hv=.bool (!(g == 0))/\iv=.int .i64 i/\Hid (wr.ownsRow w.heap.size 205 3 ov ps.length (rpC ps))/\i<=t.length/\t.length - i<f/\ps.length<=i/\G<=i/\(g=0\/g=G)/\Hid (S=(zkK f (t.drop i) G g).map (ps ++ ·))/\Hid (Kept w wr)) (fun _ _ _ iv _=>t.length - (intOf iv).toNat)
 case atStart=>exact ⟨t.length+1,[],0,0,0,rfl,rfl,rfl,World.ownsRow_nil _ _ _ _,by omega,by omega,by simp,by omega,.inl rfl,H0.out,Kept.refl _⟩
 case round =>
  obtain ⟨f,ps,G,g,i,rfl,rfl,rfl,HOWN,hi,hf,hps,hG,hgG,HSP,HKR⟩:=hrel;obtain ⟨f,rfl⟩:∃ f',f=f'+1:=⟨f - 1,by omega⟩;have hsz:w.heap.size<=wr.heap.size:=HKR.out.size;by_cases hlt:i<t.length
  ·have i0:=zc0 (P:=Tryz.prog) (t:=9) Tryz.underlying9 t i hlt i rfl;have i1:=zhH (P:=Tryz.prog) (t:=9) Tryz.underlying9 t i (i+1) (by omega) (by omega) i ((i:Int)+1) rfl (by omega) _ (zDO t i hlt);have HDR:Hid (t.drop i=t[i] :: t.drop (i+1)):=List.drop_eq_getElem_cons hlt;have h8:=zbE t i hlt;rw[HDR.out] at HSP;generalize t[i]=b at HSP h8 i1;rw[h8] at i0;clear HDR h8;cases hin:zbN zcA b with
   | false =>
    rw[zo2 _ _ _ hin,zpU] at HSP;have hne:∀ n:Nat,n<256->zbN zcA (UInt8.ofNat n)=true->((b.toNat:Int) == (n:Int))=false:=fun n hn hs=>by
     rw[beq_eq_false_iff_ne];intro q;have:=(zeY b n hn).1 q;rw[this,hs] at hin;cases hin
    have b1:((b.toNat:Int) == 123)=false:=hne 123 (by decide) (by decide);have b2:((b.toNat:Int) == 125)=false:=hne 125 (by decide) (by decide);have b3:((b.toNat:Int) == 91)=false:=hne 91 (by decide) (by decide);have b4:((b.toNat:Int) == 93)=false:=hne 93 (by decide) (by decide);clear hne hin;by_cases hg0:g=0
    ·subst hg0;have hgb:((0:Nat) == 0)=true:=rfl;rw[hgb];simp only[Bool.not_true];have HBQ:=Hd (Blk.new wr 205 #[.string (bs [b]),.string (bs []),.int .i64 (0:Nat)]);have HOA:=Hd (HOWN.out.alloc (.cells #[.string (bs [b]),.string (bs []),.int .i64 (0:Nat)] 205));have HKA:=Hd (HKR.out.trans (zaA wr (.cells #[.string (bs [b]),.string (bs []),.int .i64 (0:Nat)] 205)));go_wp2_with (at_builtin;refine zcT _ (by rfl) (.tmp 19) (.tmp 27) (by rfl) w.heap.size _ ps (by rfl) HOA.out ⟨[b],[],(0:Nat)⟩ wr.heap.size (by rfl) HBQ.out (by omega) HKA.out.size ?_;intro v5 w5 hown5 hgrow5;rw[List.length_append,List.length_singleton] at hown5;have HO5:=Hd hown5;have HK5:=Hd (HKA.out.trans' (zaI HOA.out hgrow5 HKA.out.size));obtain ⟨a5,c5,rfl,-,-,-⟩:=zaV hown5;clear hown5 hgrow5);go_roundw
     case rel=>exact ⟨f,ps ++ [Rp.mk [b] [] (0:Nat)],G,(0:Nat),i+1,rfl,rfl,by go_num,(by show World.ownsRow _ _ _ _ _ _ _;rw[List.length_append];exact HO5.out),by omega,by omega,by rw[List.length_append,List.length_singleton];omega,by omega,.inl rfl,HSP.out,HK5.out⟩
     case measure=>simp [intOf];omega
    ·have hgb:(g == 0)=false:=(by rw[beq_eq_false_iff_ne];exact hg0);obtain rfl:g=G:=hgG.resolve_left hg0;rw[hgb];simp only[Bool.not_false];have HBQ:=Hd (Blk.new wr 205 #[.string (bs [b]),.string (bs []),.int .i64 g]);have HOA:=Hd (HOWN.out.alloc (.cells #[.string (bs [b]),.string (bs []),.int .i64 g] 205));have HKA:=Hd (HKR.out.trans (zaA wr (.cells #[.string (bs [b]),.string (bs []),.int .i64 g] 205)));go_wp2_with (at_builtin;refine zcT _ (by rfl) (.tmp 19) (.tmp 27) (by rfl) w.heap.size _ ps (by rfl) HOA.out ⟨[b],[],g⟩ wr.heap.size (by rfl) HBQ.out (by omega) HKA.out.size ?_;intro v5 w5 hown5 hgrow5;rw[List.length_append,List.length_singleton] at hown5;have HO5:=Hd hown5;have HK5:=Hd (HKA.out.trans' (zaI HOA.out hgrow5 HKA.out.size));obtain ⟨a5,c5,rfl,-,-,-⟩:=zaV hown5;clear hown5 hgrow5);go_roundw
     case rel=>exact ⟨f,ps ++ [Rp.mk [b] [] g],g,g,i+1,rfl,by rw[hgb];rfl,by go_num,(by show World.ownsRow _ _ _ _ _ _ _;rw[List.length_append];exact HO5.out),by omega,by omega,by rw[List.length_append,List.length_singleton];omega,by omega,.inr rfl,HSP.out,HK5.out⟩
     case measure=>simp [intOf];omega
   | true =>
    have hb:=zcV hin;clear hin;rcases hb with rfl|rfl|rfl|rfl
    · -- a field
     have i0':∀ w,(Instr.index 9 (.string (bs t)) (.int .i64 (i:Int))).run Tryz.prog w=.ok (.int .u8 123) w:=i0;clear i0;rw[zo3] at HSP;have HLEN:Hid ((t.drop (i+1)).length=t.length - (i+1)):=(by show _=_;rw[List.length_drop]);have HAT:Hid (∀ j,j<(t.drop (i+1)).length->at8 t (i+1+j)=at8 (t.drop (i+1)) j):=fun j _=>by
      unfold at8;rw[List.getD_eq_getElem?_getD,List.getD_eq_getElem?_getD,List.getElem?_drop]
     have HFC:=Hd (zCJ (t.drop (i+1)));have HSL:Hid (∀ j,j<=(t.drop (i+1)).length->∀ w,(Instr.slice 9 (.string (bs t)) (some (.int .i64 ((i:Int)+1))) (some (.int .i64 ((i+1+j:Nat):Int))) none).run Tryz.prog w=.ok (.string (bs ((t.drop (i+1)).take j))) w):=fun j hj w=>by
      rw[List.length_drop] at hj;exact zhH (P:=Tryz.prog) (t:=9) Tryz.underlying9 t (i+1) (i+1+j) (by omega) (by omega) ((i:Int)+1) ((i+1+j:Nat):Int) (by omega) rfl _ (by congr 1;omega) w
     have HDD:Hid (∀ j,(t.drop (i+1)).drop (j+1)=t.drop (i+1+j+1)):=fun j=>(by rw[List.drop_drop];congr 1);obtain ⟨r,HR⟩:∃ r,Hid (t.drop (i+1)=r):=⟨_,rfl⟩;rw[HR.out] at HSP HLEN HAT HFC HSL HDD;have hrl:=HLEN.out;clear HLEN HR i1;by_cases hg0:g=0
     ·subst hg0;have hgb:((0:Nat) == 0)=true:=rfl;rw[hgb];simp only[Bool.not_true];go_wp2_with fail;obtain ⟨wo,rfl⟩:∃ wo:World,wo=wr:=⟨_,rfl⟩
      go_loop [9] (fun kv=>∃ j:Nat,j<=r.length/\kv=.int .i64 ((i+1+j:Nat):Int)/\Hid (∀ m (hm:m<r.length),m<j->zd6 r[m]=true)) (fun kv=>t.length - (intOf kv).toNat)
      case atStart=>exact ⟨0,Nat.zero_le _,by go_num,fun m hm h=>by omega⟩
      case round =>
       obtain ⟨j,hj,rfl,HLW⟩:=hrel;obtain ⟨K,HK⟩:∃ K:Int,Hid (((i+1+j:Nat):Int)=K):=⟨_,rfl⟩;have hK0:0<=K:=(by rw[<- HK.out];omega);have hK1:K<=1000000:=(by rw[<- HK.out];omega);by_cases hjl:j<r.length
       ·have i2:=zc0 (P:=Tryz.prog) (t:=9) Tryz.underlying9 t (i+1+j) (by omega) ((i+1+j:Nat):Int) rfl;rw[HAT.out j hjl] at i2;have h80:=zf8 r j;have h81:=zp5 r j;have HLOW:Hid (zd6 r[j]=(decide (97<=at8 r j) && decide (at8 r j<=122))):=by
         show _=_;rw[zbE r j hjl];rfl
        have HRL:=Hd (fun w=>zk8 (at8 r j) w h80 h81);have hjt:K<(t.length:Int):=(by rw[<- HK.out];omega);obtain ⟨lb,HLB⟩:∃ x,Hid (zd6 r[j]=x):=⟨zd6 r[j],rfl⟩;rw[<- HLOW.out,HLB.out] at HRL;cases lb with
        | true =>
         have HNX:Hid (∀ m (hm:m<r.length),m<j+1->zd6 r[m]=true):=fun m hm hmj=>by
          rcases Nat.lt_or_ge m j with q|q
          ·exact HLW.out m hm q
          ·obtain rfl:m=j:=(by omega);exact HLB.out
         clear HLOW HLB HLW;generalize at8 r j=bj at *;rw[HK.out] at i2 ⊢;go_wp2_with fail;refine (HRL.out _).mono ?_;rintro e w2 ⟨rfl,rfl⟩;go_wp2_with fail
         go_round
         case rel=>exact ⟨j+1,by omega,by rw[<- HK.out];go_num,HNX.out⟩
         case measure=>rw[<- HK.out];simp [intOf];omega
        | false =>
         have HN:Hid (ztR r=j):=zmS HLW.out (by omega) (fun _=>HLB.out);have HBR:Hid (at8 r j=125↔r[j]=125):=by
          show _↔_;rw[zbE r j hjl];exact zeY _ 125 (by decide)
         rw[HN.out] at HFC;clear HLOW HN;by_cases j0:j=0
         ·have HNC:¬ _:=fun q=>absurd (HFC.out.1 q).1 (by omega);have HS:Hid (S=none):=(by show _=_;rw[HSP.out,if_neg HNC];rfl);clear HSP HNC;have e1:(K == ((i:Int)+1))=true:=(by rw[<- HK.out,j0,beq_iff_eq];omega);generalize at8 r j=bj at *;rw[HK.out] at i2 ⊢;clear j0 HLB HLW HFC HBR;go_wp2_with fail;refine (HRL.out _).mono ?_;rintro e w2 ⟨rfl,rfl⟩;go_wp2_with fail;exact H5.out HS.out _ HKR.out
         have e1:(K == ((i:Int)+1))=false:=(by rw[<- HK.out,beq_eq_false_iff_ne];omega);by_cases j20:20<j
         ·have HNC:¬ _:=fun q=>absurd (HFC.out.1 q).2.1 (by omega);have HS:Hid (S=none):=(by show _=_;rw[HSP.out,if_neg HNC];rfl);clear HSP HNC;have e2:(i:Int)+21<K:=(by rw[<- HK.out];omega);generalize at8 r j=bj at *;rw[HK.out] at i2 ⊢;clear j0 j20 HLB HLW HFC HBR;go_wp2_with fail;refine (HRL.out _).mono ?_;rintro e w2 ⟨rfl,rfl⟩;go_wp2_with fail;exact H5.out HS.out _ HKR.out
         have e2:¬ (i:Int)+21<K:=(by rw[<- HK.out];omega);have e3:(K == (t.length:Int))=false:=(by rw[beq_eq_false_iff_ne];omega);by_cases hbr:at8 r j=125
         ·have HC:=HFC.out.2 ⟨by omega,by omega,hjl,HBR.out.1 hbr⟩;have HB:Hid (zaO 125 r=j):=zmT (fun m hm h=>zmU (HLW.out m hm h)) hjl (HBR.out.1 hbr);rw[if_pos HC,zpU,HB.out,HDD.out j] at HSP;have i3:=HSL.out j hj;rw[hbr] at i2 HRL;clear HC HB HBR HLB HLW HFC j0 j20 hbr;generalize at8 r j=bj at *;generalize r.take j=X at *;rw[HK.out] at i2 i3 ⊢;go_wp2_with fail;refine (HRL.out _).mono ?_;rintro e w2 ⟨rfl,rfl⟩;have HBQ:=Hd (Blk.new wo 205 #[.string (bs []),.string (bs X),.int .i64 (0:Nat)]);have HOA:=Hd (HOWN.out.alloc (.cells #[.string (bs []),.string (bs X),.int .i64 (0:Nat)] 205));have HKA:=Hd (HKR.out.trans (zaA wo (.cells #[.string (bs []),.string (bs X),.int .i64 (0:Nat)] 205)));go_wp2_with (at_builtin;refine zcT _ (by rfl) (.tmp 82) (.tmp 90) (by rfl) w.heap.size _ ps (by rfl) HOA.out ⟨[],X,(0:Nat)⟩ wo.heap.size (by rfl) HBQ.out (by omega) HKA.out.size ?_;intro v5 w5 hown5 hgrow5;rw[List.length_append,List.length_singleton] at hown5;have HO5:=Hd hown5;have HK5:=Hd (HKA.out.trans' (zaI HOA.out hgrow5 HKA.out.size));obtain ⟨a5,c5,rfl,-,-,-⟩:=zaV hown5;clear hown5 hgrow5);go_roundw
          case rel=>exact ⟨f,ps ++ [Rp.mk [] X (0:Nat)],G,(0:Nat),i+1+j+1,rfl,rfl,by rw[<- HK.out];go_num,(by show World.ownsRow _ _ _ _ _ _ _;rw[List.length_append];exact HO5.out),by omega,by omega,by rw[List.length_append,List.length_singleton];omega,by omega,.inl rfl,HSP.out,HK5.out⟩
          case measure=>rw[<- HK.out];simp [intOf];omega
         ·have HNC:¬ _:=fun q=>by
           obtain ⟨_,_,h1,h2⟩:=HFC.out.1 q;exact hbr (HBR.out.2 h2)
          have HS:Hid (S=none):=(by show _=_;rw[HSP.out,if_neg HNC];rfl);clear HSP HNC;have e4:(at8 r j == 125)=false:=(by simpa using hbr);have e5:(at8 r j != 125)=true:=(by rw[bne,e4];rfl);clear j0 j20 hbr HLB HLW HFC HBR;generalize at8 r j=bj at *;rw[HK.out] at i2 ⊢;go_wp2_with fail;refine (HRL.out _).mono ?_;rintro e w2 ⟨rfl,rfl⟩;go_wp2_with fail;exact H5.out HS.out _ HKR.out
       ·have HN:Hid (ztR r=j):=zmS HLW.out (by omega) (fun h=>absurd h hjl);rw[HN.out] at HFC;have HNC:¬ _:=fun q=>by
         obtain ⟨_,_,h1,_⟩:=HFC.out.1 q;exact hjl h1
        have HS:Hid (S=none):=(by show _=_;rw[HSP.out,if_neg HNC];rfl);clear HSP HNC;have e3:(K == (t.length:Int))=true:=(by rw[<- HK.out,beq_iff_eq];omega);have e0:¬ K<(t.length:Int):=(by rw[<- HK.out];omega);have hjj:j=r.length:=(by omega);clear HFC HLW HN;by_cases j0:j=0
        ·have e1:(K == ((i:Int)+1))=true:=(by rw[<- HK.out,j0,beq_iff_eq];omega);clear j0 hjj;rw[HK.out];go_wp2_with fail;exact H5.out HS.out _ HKR.out
        have e1:(K == ((i:Int)+1))=false:=(by rw[<- HK.out,beq_eq_false_iff_ne];omega);by_cases j20:20<j
        ·have e2:(i:Int)+21<K:=(by rw[<- HK.out];omega);clear j0 hjj j20;rw[HK.out];go_wp2_with fail;exact H5.out HS.out _ HKR.out
        have e2:¬ (i:Int)+21<K:=(by rw[<- HK.out];omega);clear j0 hjj j20;rw[HK.out];go_wp2_with fail;exact H5.out HS.out _ HKR.out
     ·have hgb:(g == 0)=false:=(by rw[beq_eq_false_iff_ne];exact hg0);obtain rfl:g=G:=hgG.resolve_left hg0;rw[hgb];simp only[Bool.not_false];go_wp2_with fail;obtain ⟨wo,rfl⟩:∃ wo:World,wo=wr:=⟨_,rfl⟩
      go_loop [9] (fun kv=>∃ j:Nat,j<=r.length/\kv=.int .i64 ((i+1+j:Nat):Int)/\Hid (∀ m (hm:m<r.length),m<j->zd6 r[m]=true)) (fun kv=>t.length - (intOf kv).toNat)
      case atStart=>exact ⟨0,Nat.zero_le _,by go_num,fun m hm h=>by omega⟩
      case round =>
       obtain ⟨j,hj,rfl,HLW⟩:=hrel;obtain ⟨K,HK⟩:∃ K:Int,Hid (((i+1+j:Nat):Int)=K):=⟨_,rfl⟩;have hK0:0<=K:=(by rw[<- HK.out];omega);have hK1:K<=1000000:=(by rw[<- HK.out];omega);by_cases hjl:j<r.length
       ·have i2:=zc0 (P:=Tryz.prog) (t:=9) Tryz.underlying9 t (i+1+j) (by omega) ((i+1+j:Nat):Int) rfl;rw[HAT.out j hjl] at i2;have h80:=zf8 r j;have h81:=zp5 r j;have HLOW:Hid (zd6 r[j]=(decide (97<=at8 r j) && decide (at8 r j<=122))):=by
         show _=_;rw[zbE r j hjl];rfl
        have HRL:=Hd (fun w=>zk8 (at8 r j) w h80 h81);have hjt:K<(t.length:Int):=(by rw[<- HK.out];omega);obtain ⟨lb,HLB⟩:∃ x,Hid (zd6 r[j]=x):=⟨zd6 r[j],rfl⟩;rw[<- HLOW.out,HLB.out] at HRL;cases lb with
        | true =>
         have HNX:Hid (∀ m (hm:m<r.length),m<j+1->zd6 r[m]=true):=fun m hm hmj=>by
          rcases Nat.lt_or_ge m j with q|q
          ·exact HLW.out m hm q
          ·obtain rfl:m=j:=(by omega);exact HLB.out
         clear HLOW HLB HLW;generalize at8 r j=bj at *;rw[HK.out] at i2 ⊢;go_wp2_with fail;refine (HRL.out _).mono ?_;rintro e w2 ⟨rfl,rfl⟩;go_wp2_with fail
         go_round
         case rel=>exact ⟨j+1,by omega,by rw[<- HK.out];go_num,HNX.out⟩
         case measure=>rw[<- HK.out];simp [intOf];omega
        | false =>
         have HN:Hid (ztR r=j):=zmS HLW.out (by omega) (fun _=>HLB.out);have HBR:Hid (at8 r j=125↔r[j]=125):=by
          show _↔_;rw[zbE r j hjl];exact zeY _ 125 (by decide)
         rw[HN.out] at HFC;clear HLOW HN;by_cases j0:j=0
         ·have HNC:¬ _:=fun q=>absurd (HFC.out.1 q).1 (by omega);have HS:Hid (S=none):=(by show _=_;rw[HSP.out,if_neg HNC];rfl);clear HSP HNC;have e1:(K == ((i:Int)+1))=true:=(by rw[<- HK.out,j0,beq_iff_eq];omega);generalize at8 r j=bj at *;rw[HK.out] at i2 ⊢;clear j0 HLB HLW HFC HBR;go_wp2_with fail;refine (HRL.out _).mono ?_;rintro e w2 ⟨rfl,rfl⟩;go_wp2_with fail;exact H5.out HS.out _ HKR.out
         have e1:(K == ((i:Int)+1))=false:=(by rw[<- HK.out,beq_eq_false_iff_ne];omega);by_cases j20:20<j
         ·have HNC:¬ _:=fun q=>absurd (HFC.out.1 q).2.1 (by omega);have HS:Hid (S=none):=(by show _=_;rw[HSP.out,if_neg HNC];rfl);clear HSP HNC;have e2:(i:Int)+21<K:=(by rw[<- HK.out];omega);generalize at8 r j=bj at *;rw[HK.out] at i2 ⊢;clear j0 j20 HLB HLW HFC HBR;go_wp2_with fail;refine (HRL.out _).mono ?_;rintro e w2 ⟨rfl,rfl⟩;go_wp2_with fail;exact H5.out HS.out _ HKR.out
         have e2:¬ (i:Int)+21<K:=(by rw[<- HK.out];omega);have e3:(K == (t.length:Int))=false:=(by rw[beq_eq_false_iff_ne];omega);by_cases hbr:at8 r j=125
         ·have HC:=HFC.out.2 ⟨by omega,by omega,hjl,HBR.out.1 hbr⟩;have HB:Hid (zaO 125 r=j):=zmT (fun m hm h=>zmU (HLW.out m hm h)) hjl (HBR.out.1 hbr);rw[if_pos HC,zpU,HB.out,HDD.out j] at HSP;have i3:=HSL.out j hj;rw[hbr] at i2 HRL;clear HC HB HBR HLB HLW HFC j0 j20 hbr;generalize at8 r j=bj at *;generalize r.take j=X at *;rw[HK.out] at i2 i3 ⊢;go_wp2_with fail;refine (HRL.out _).mono ?_;rintro e w2 ⟨rfl,rfl⟩;have HBQ:=Hd (Blk.new wo 205 #[.string (bs []),.string (bs X),.int .i64 g]);have HOA:=Hd (HOWN.out.alloc (.cells #[.string (bs []),.string (bs X),.int .i64 g] 205));have HKA:=Hd (HKR.out.trans (zaA wo (.cells #[.string (bs []),.string (bs X),.int .i64 g] 205)));go_wp2_with (at_builtin;refine zcT _ (by rfl) (.tmp 82) (.tmp 90) (by rfl) w.heap.size _ ps (by rfl) HOA.out ⟨[],X,g⟩ wo.heap.size (by rfl) HBQ.out (by omega) HKA.out.size ?_;intro v5 w5 hown5 hgrow5;rw[List.length_append,List.length_singleton] at hown5;have HO5:=Hd hown5;have HK5:=Hd (HKA.out.trans' (zaI HOA.out hgrow5 HKA.out.size));obtain ⟨a5,c5,rfl,-,-,-⟩:=zaV hown5;clear hown5 hgrow5);go_roundw
          case rel=>exact ⟨f,ps ++ [Rp.mk [] X g],g,g,i+1+j+1,rfl,by rw[hgb];rfl,by rw[<- HK.out];go_num,(by show World.ownsRow _ _ _ _ _ _ _;rw[List.length_append];exact HO5.out),by omega,by omega,by rw[List.length_append,List.length_singleton];omega,by omega,.inr rfl,HSP.out,HK5.out⟩
          case measure=>rw[<- HK.out];simp [intOf];omega
         ·have HNC:¬ _:=fun q=>by
           obtain ⟨_,_,h1,h2⟩:=HFC.out.1 q;exact hbr (HBR.out.2 h2)
          have HS:Hid (S=none):=(by show _=_;rw[HSP.out,if_neg HNC];rfl);clear HSP HNC;have e4:(at8 r j == 125)=false:=(by simpa using hbr);have e5:(at8 r j != 125)=true:=(by rw[bne,e4];rfl);clear j0 j20 hbr HLB HLW HFC HBR;generalize at8 r j=bj at *;rw[HK.out] at i2 ⊢;go_wp2_with fail;refine (HRL.out _).mono ?_;rintro e w2 ⟨rfl,rfl⟩;go_wp2_with fail;exact H5.out HS.out _ HKR.out
       ·have HN:Hid (ztR r=j):=zmS HLW.out (by omega) (fun h=>absurd h hjl);rw[HN.out] at HFC;have HNC:¬ _:=fun q=>by
         obtain ⟨_,_,h1,_⟩:=HFC.out.1 q;exact hjl h1
        have HS:Hid (S=none):=(by show _=_;rw[HSP.out,if_neg HNC];rfl);clear HSP HNC;have e3:(K == (t.length:Int))=true:=(by rw[<- HK.out,beq_iff_eq];omega);have e0:¬ K<(t.length:Int):=(by rw[<- HK.out];omega);have hjj:j=r.length:=(by omega);clear HFC HLW HN;by_cases j0:j=0
        ·have e1:(K == ((i:Int)+1))=true:=(by rw[<- HK.out,j0,beq_iff_eq];omega);clear j0 hjj;rw[HK.out];go_wp2_with fail;exact H5.out HS.out _ HKR.out
        have e1:(K == ((i:Int)+1))=false:=(by rw[<- HK.out,beq_eq_false_iff_ne];omega);by_cases j20:20<j
        ·have e2:(i:Int)+21<K:=(by rw[<- HK.out];omega);clear j0 hjj j20;rw[HK.out];go_wp2_with fail;exact H5.out HS.out _ HKR.out
        have e2:¬ (i:Int)+21<K:=(by rw[<- HK.out];omega);clear j0 hjj j20;rw[HK.out];go_wp2_with fail;exact H5.out HS.out _ HKR.out
    · -- a closing brace
     have i0':∀ w,(Instr.index 9 (.string (bs t)) (.int .i64 (i:Int))).run Tryz.prog w=.ok (.int .u8 125) w:=i0;rw[zo4] at HSP;have HS:Hid (S=none):=HSP.out;clear i0;by_cases hg0:g=0
     ·have hgb:(g == 0)=true:=(by rw[hg0];rfl);rw[hgb];go_wp2_with fail;exact H5.out HS.out _ HKR.out
     ·have hgb:(g == 0)=false:=(by rw[beq_eq_false_iff_ne];exact hg0);rw[hgb];go_wp2_with fail;exact H5.out HS.out _ HKR.out
    · -- a group begins
     have i0':∀ w,(Instr.index 9 (.string (bs t)) (.int .i64 (i:Int))).run Tryz.prog w=.ok (.int .u8 91) w:=i0;clear i0;rw[zl0] at HSP;by_cases hg0:g=0
     ·rw[if_pos hg0] at HSP;subst hg0;have hgb:((0:Nat) == 0)=true:=rfl;rw[hgb];go_wp2_with fail;go_roundw
      case rel=>exact ⟨f,ps,G+1,G+1,i+1,by go_num,rfl,by go_num,HOWN.out,by omega,by omega,by omega,by omega,.inr rfl,HSP.out,HKR.out⟩
      case measure=>simp [intOf];omega
     ·rw[if_neg hg0] at HSP;have HS:Hid (S=none):=HSP.out;have hgb:(g == 0)=false:=(by rw[beq_eq_false_iff_ne];exact hg0);rw[hgb];go_wp2_with fail;exact H5.out HS.out _ HKR.out
    · -- a group ends
     have i0':∀ w,(Instr.index 9 (.string (bs t)) (.int .i64 (i:Int))).run Tryz.prog w=.ok (.int .u8 93) w:=i0;clear i0;rw[zl1] at HSP;by_cases hg0:g=0
     ·rw[if_pos hg0] at HSP;have HS:Hid (S=none):=HSP.out;have hgb:(g == 0)=true:=(by rw[hg0];rfl);rw[hgb];go_wp2_with fail;exact H5.out HS.out _ HKR.out
     ·rw[if_neg hg0] at HSP;have hgb:(g == 0)=false:=(by rw[beq_eq_false_iff_ne];exact hg0);rw[hgb];go_wp2_with fail;go_roundw
      case rel=>exact ⟨f,ps,G,0,i+1,rfl,rfl,by go_num,HOWN.out,by omega,by omega,by omega,by omega,.inl rfl,HSP.out,HKR.out⟩
      case measure=>simp [intOf];omega
  ·have HDN:Hid (t.drop i=[]):=(by show _=_;rw[List.drop_eq_nil_iff];omega);rw[HDN.out,zkZ] at HSP;by_cases hg0:g=0
   ·rw[if_pos hg0] at HSP;have HS:Hid (S=some ps):=(by show _=_;rw[HSP.out];simp);have HP:=Hd (Rps.own HOWN.out);have hgb:(g == 0)=true:=(by rw[hg0];rfl);rw[hgb];go_wp2_with fail;exact HOK.out ps HS.out _ _ HP.out HKR.out
   ·rw[if_neg hg0] at HSP;have HS:Hid (S=none):=(by show _=_;rw[HSP.out];rfl);have hgb:(g == 0)=false:=(by rw[beq_eq_false_iff_ne];exact hg0);rw[hgb];obtain ⟨a5,c5,rfl,-,-,-⟩:=zaV HOWN.out;go_wp2_with fail;exact H6.out HS.out _ _ rfl HKR.out
theorem zCK (t:Bs):(znD t).isSome=(zkX t).isSome:=by
 unfold znD;cases zkX t <;> rfl
theorem zFb {t:Bs} (h:zdD t=0):znD t=some (zuO (zf2 t)):=by
 unfold znD;have h1:zf2 t=(zkX t).getD []:=(by unfold zf2;rw[if_pos h]);rw[h1];unfold zdD at h
 split at h
 ·cases h
 ·split at h
  ·rename_i q;cases hs:zkX t with
   | none=>rw[hs] at q;cases q
   | some l=>rfl
  ·cases h
theorem zCL {t:Bs} {b c:Bool} (h1:lnB t=b) (h2:(znD t).isSome=c):zdD t=if b=false then 17 else if c=true then 0 else 5:=by
 subst h1 h2;unfold zdD;rw[zCK]
theorem zfV (t:Bs) (w:World) (ht:t.length<=100000):Calls Tryz.prog 110 #[.string (bs t)] w fun e w'=>e=.returned (.int .i64 (zdD t))/\Kept w w':=by
 have HL:=Hd (fun w=>zfU t w (by omega));have HP:=Hd (fun w=>zoH t w ht);unfold PartsP at HP;obtain ⟨b,HB⟩:∃ b,Hid (lnB t=b):=⟨_,rfl⟩;obtain ⟨c,HC⟩:∃ c,Hid ((znD t).isSome=c):=⟨_,rfl⟩;have HE:=Hd (zCL HB.out HC.out);rw[HE.out];rw[HB.out] at HL;rw[HC.out] at HP;clear HB HC HE;generalize znD t=S at *;go_enter Tryz.func110,Tryz.ntmps110;go_wp2_with fail;refine (HL.out _).mono ?_;rintro e w1 ⟨rfl,hk1⟩;have HK1:=Hd hk1;clear hk1;cases b with
 | false =>
  go_wp2_with fail;go_ret;exact ⟨rfl,HK1.out⟩
 | true =>
  go_wp2_with fail;refine (HP.out _).mono ?_;rintro e w2 ⟨v,rfl,hv,-,hk2⟩;have HK2:=Hd (HK1.out.trans hk2);clear hk2;cases c with
  | false =>
   go_wp2_with fail;go_ret;exact ⟨rfl,HK2.out⟩
  | true =>
   go_wp2_with fail;go_ret;exact ⟨rfl,HK2.out⟩
theorem zAC (s:Bs) (w:World) (hs:s.length<=1000000000) (h0:0<s.length) :
  Calls Tryz.prog 235 #[.string (bs s),.int .i64 0] w fun e w'=>e=.returned (.tuple #[.int .i64 (dec (bs s) 0).1,.int .i64 (dec (bs s) 0).2])/\Kept w w':=by
 have HA:Hid (∀ w,Calls Tryz.prog 203 #[.string (bs s),.int .i64 0] w fun e w'=>e=.returned (.agg #[.int .i64 (dec (bs s) 0).1,.int .i64 (dec (bs s) 0).2])/\Kept w w'):=fun w=>zx7 (bs s) 0 w (by simpa using hs) (by simpa using h0);generalize dec (bs s) 0=p at *;obtain ⟨a,b⟩:=p;have hne:¬ s=[]:=(by intro q;rw[q] at h0;simp at h0);go_enter Tryz.func235,Tryz.ntmps235;go_wp2_with fail;refine (HA.out _).mono ?_;rintro e w1 ⟨rfl,hk1⟩;have HK1:=Hd hk1;clear hk1;go_wp2_with fail
 go_quiet (fail)
 go_wp2_with fail;go_ret2;exact ⟨rfl,(HK1.out.trans (zaA _ _)).trans (zaB _ _)⟩
def PieceSt (c:UInt8) (t:Bs) (k fr:Nat) (xs:List Bs):Prop :=
 (k<=t.length/\fr<=k/\xs=(zi7 c (t.take k)).1.filter zdE/\(t.take k).drop fr=(zi7 c (t.take k)).2)\/(k=t.length+1/\xs=zaU c t)
theorem PieceSt.start (c:UInt8) (t:Bs):PieceSt c t 0 0 []:=.inl ⟨Nat.zero_le _,Nat.le_refl _,by simp [zi7],by simp [zi7]⟩
def zCM (xs:List Bs) (y:Bs):List Bs:=xs ++ (if zdE y then [y] else [])
theorem zmV (xs:List Bs) (y:Bs):(xs ++ [y]).filter zdE=zCM (xs.filter zdE) y:=by
 unfold zCM;rw[List.filter_append];cases q:zdE y <;> simp [q]
theorem PieceSt.last {c:UInt8} {t:Bs} {fr:Nat} {xs:List Bs} (h:PieceSt c t t.length fr xs):PieceSt c t (t.length+1) (t.length+1) (zCM xs ((t.drop fr).take (t.length - fr)))/\fr<=t.length:=by
 rcases h with ⟨_,h2,h3,h4⟩|⟨h,_⟩
 ·rw[List.take_of_length_le (Nat.le_refl _)] at h3 h4;refine ⟨.inr ⟨rfl,?_⟩,h2⟩;rw[List.take_of_length_le (by simp)];unfold zaU za1;rw[zmV,h3,h4]
 ·omega
theorem PieceSt.comma {c:UInt8} {t:Bs} {k fr:Nat} {xs:List Bs} (h:PieceSt c t k fr xs) (hk:k<t.length) (hb:t[k]=c):PieceSt c t (k+1) (k+1) (zCM xs ((t.drop fr).take (k - fr)))/\fr<=k:=by
 rcases h with ⟨h1,h2,h3,h4⟩|⟨h,_⟩
 ·refine ⟨.inl ⟨by omega,Nat.le_refl _,?_,?_⟩,h2⟩
  ·rw[zbT t k hk,zb3,hb];rw[show (t.drop fr).take (k - fr)=(t.take k).drop fr from by rw[List.drop_take],h4,h3];simp only[zbS,if_true,zmV]
  ·rw[zbT t k hk,zb3,hb];rw[List.drop_of_length_le (by simp;omega)];simp [zbS]
 ·omega
theorem PieceSt.other {c:UInt8} {t:Bs} {k fr:Nat} {xs:List Bs} (h:PieceSt c t k fr xs) (hk:k<t.length) (hb:t[k]≠c):PieceSt c t (k+1) fr xs/\fr<=k:=by
 rcases h with ⟨h1,h2,h3,h4⟩|⟨h,_⟩
 ·refine ⟨.inl ⟨by omega,by omega,?_,?_⟩,h2⟩
  ·rw[zbT t k hk,zb3];simp [zbS,hb,h3]
  ·rw[zbT t k hk,zb3,List.drop_append_of_le_length (by simp;omega),h4];simp [zbS,hb]
 ·omega
theorem PieceSt.done {c:UInt8} {t:Bs} {k fr:Nat} {xs:List Bs} (h:PieceSt c t k fr xs) (hk:¬ k<=t.length):xs=zaU c t:=by
 rcases h with ⟨h1,_⟩|⟨_,h⟩
 ·omega
 ·exact h
def StrsPost (xs:List Bs) (w:World) (e:Ending) (w':World):Prop:=∃ v,e=.returned v/\Strs w' v xs/\Kept w w'
theorem zCN (xs:List Bs):zCM xs []=xs:=by simp [zCM,zdE]
theorem zCO (xs:List Bs) (y:Bs) (h:y≠[]):zCM xs y=xs ++ [y]:=by simp [zCM,zdE,h]
theorem zoI (t:Bs) (c:UInt8) (w:World) (ht:t.length<=1000000):Calls Tryz.prog 237 #[.string (bs t),.int .u8 (c.toNat:Int)] w (StrsPost (zaU c t) w):=by
 obtain ⟨i0',hi',hz0,hz1,hz2⟩:=info_parts Tryz.infoStr;go_enter Tryz.func237,Tryz.ntmps237;go_wp2_with fail;go_loopw [5,6,7] (fun v fv i wr=>∃ (k fr:Nat) (xs:List Bs),k<=t.length+1/\i=.int .i64 k/\fv=.int .i64 fr/\fr<=t.length+1/\xs.length<=k/\wr.ownsRow w.heap.size 9 1 v xs.length (zaF xs)/\Hid (PieceSt c t k fr xs)/\Kept w wr) (fun _ _ i _=>t.length+1 - (intOf i).toNat)
 case atStart=>exact ⟨0,0,[],Nat.zero_le _,rfl,rfl,Nat.zero_le _,Nat.le_refl _,World.ownsRow_nil _ _ _ _,PieceSt.start c t,Kept.refl _⟩
 case round =>
  obtain ⟨k,fr,xs,hk,rfl,rfl,hfr,hxl,hown,HS,hkr⟩:=hrel;have hsz:w.heap.size<=wr.heap.size:=hkr.size;have HKR:=Hd hkr;have HOWN:=Hd hown;clear hkr hown;have key:Hid (k<=t.length->((k<t.length->at8 t k=(c.toNat:Int))->PieceSt c t (k+1) (k+1) (zCM xs ((t.drop fr).take (k - fr)))/\fr<=k)):=by
   intro h1 h2;by_cases q:k<t.length
   ·refine HS.out.comma q ?_;have:=h2 q;rw[zbE t k q] at this;exact UInt8.toNat_inj.1 (by omega)
   ·obtain rfl:k=t.length:=(by omega);exact HS.out.last
  by_cases hle:k<=t.length
  ·by_cases hend:k<t.length/\at8 t k≠(c.toNat:Int)
   ·obtain ⟨hlt,hb⟩:=hend;have i0:=zc0 (P:=Tryz.prog) (t:=9) Tryz.underlying9 t k hlt k rfl;have hne:((k:Int) == (t.length:Int))=false:=(by rw[beq_eq_false_iff_ne];omega);obtain ⟨hst,hfk⟩:=HS.out.other hlt (fun q=>hb (by rw[zbE t k hlt,q]));have HST:=Hd hst;have hb':(at8 t k == (c.toNat:Int))=false:=(by simpa using hb);generalize at8 t k=b at *;clear hst hb key;go_wp2_with fail;go_roundw
    case rel=>exact ⟨k+1,fr,xs,by omega,by go_num,rfl,by omega,by omega,HOWN.out,HST.out,HKR.out⟩
    case measure=>simp [intOf];omega
   ·obtain ⟨hst,hfk⟩:=key.out hle (fun q=>by
     by_cases h:at8 t k=(c.toNat:Int)
     ·exact h
     ·exact absurd ⟨q,h⟩ hend)
    have HST:=Hd hst;have sl:=zhH (P:=Tryz.prog) (t:=9) Tryz.underlying9 t fr k hfk hle fr k rfl rfl _ rfl;have HY:Hid (fr<k->(t.drop fr).take (k - fr)≠[]):=by
     intro q h;have:=congrArg List.length h;simp at this;omega
    have HYN:Hid (¬ fr<k->(t.drop fr).take (k - fr)=[]):=by
     intro q;rw[show k - fr=0 from by omega];simp
    generalize (t.drop fr).take (k - fr)=y at *;clear hst key;have hcase:(((k:Int) == (t.length:Int))=true)\/(((k:Int) == (t.length:Int))=false/\k<t.length/\(at8 t k == (c.toNat:Int))=true):=by
     by_cases q:k<t.length
     ·right;refine ⟨by rw[beq_eq_false_iff_ne];omega,q,?_⟩;rw[beq_iff_eq];by_cases h:at8 t k=(c.toNat:Int)
      ·exact h
      ·exact absurd ⟨q,h⟩ hend
     ·left;rw[beq_iff_eq];omega
    clear hend;rcases hcase with q1|⟨q1,q2,q3⟩
    case' inr=>have i0:=zc0 (P:=Tryz.prog) (t:=9) Tryz.underlying9 t k q2 k rfl;generalize at8 t k=b at *
    all_goals
     by_cases hfr2:fr<k
     ·have HYY:=Hd (HY.out hfr2);have hown:=HOWN.out;clear HY HYN;go_wp2_with (at_builtin;refine wpList_append_own _ rfl _ _ 29 rfl w.heap.size 9 i0' (.string ⟨#[]⟩) 1 16 Tryz.underlying29 hi' hz0 hz1 hz2 rfl (by decide) _ _ _ rfl (hown.alloc _) ⟨wr.heap.size,0,none⟩ 1 1 [.string (bs y)] rfl rfl ?_ ?_ ?_ ?_ ?_ ?_)
      ·exact za0 _ #[.string (bs y)] _ _ (by simp)
      ·intro u hu;simp at hu;subst hu;rfl
      ·unfold maxLen;omega
      ·omega
      ·simp;omega
      intro v' w2 hown2 hgrow _;have HB2:=Hd ((HKR.out.trans (zaA wr _)).trans' (zaI (hown.alloc _) hgrow (by simp;omega)));rw[<- za8] at hown2;have HO:=Hd hown2;clear hown2 hgrow hown;go_wp2_with fail;go_roundw
      case rel=>exact ⟨k+1,k+1,xs ++ [y],by omega,by go_num,by go_num,by omega,by simp;omega,by simpa using HO.out,by have h:=HST.out;rw[zCO _ _ HYY.out] at h;exact h,HB2.out⟩
      case measure=>simp [intOf];omega
     ·have HYY:=Hd (HYN.out hfr2);clear HY HYN;go_wp2_with fail;go_roundw
      case rel=>exact ⟨k+1,k+1,xs,by omega,by go_num,by go_num,by omega,by omega,HOWN.out,by have h:=HST.out;rw[HYY.out,zCN] at h;exact h,HKR.out⟩
      case measure=>simp [intOf];omega
  ·have HD:=Hd (HS.out.done hle);have HSS:=Hd (Strs.own HOWN.out);clear key;go_wp2_with fail;go_ret;exact ⟨_,rfl,by rw[<- HD.out];exact HSS.out,HKR.out⟩
def zr2:List Bs:=[lEn,lDe,lFr,lEs]
def zCP (l:Bs):Int:=if l=lEn then 0 else if l=lDe then 1 else if l=lFr then 2 else if l=lEs then 3 else -1
def ziZ:Array Value:=#[.string (bs [101,110]),.string (bs [100,101]),.string (bs [102,114]),.string (bs [101,115])]
theorem zwU (w:World):Calls Tryz.prog 149 #[] w fun e w'=>e=.returned (.slice (some ⟨w.heap.size,0,none⟩) 4 4)/\w'=w.alloc (.cells ziZ 9):=by
 go_enter Tryz.func149,Tryz.ntmps149;go_wp2_with fail;go_ret;exact ⟨rfl,rfl⟩
theorem zwV (k:Nat) (h:k<4):k=0\/k=1\/k=2\/k=3:=by omega
theorem zwW (l:Bs) (w:World):Calls Tryz.prog 99 #[.string (bs l)] w fun e w'=>e=.returned (.int .i64 (zCP l))/\Kept w w':=by
 go_enter Tryz.func99,Tryz.ntmps99;go_wp2_with fail;refine (zwU _).mono ?_;rintro e w1 ⟨rfl,rfl⟩;have HB:=Hd (Blk.new w 9 ziZ);have HK:=Hd (zaA w (.cells ziZ 9));generalize w.alloc (.cells ziZ 9)=w1 at *;have c0:w1.cell? ⟨w.heap.size,0,none⟩=some (.string (bs [101,110])):=HB.out.cell 0 _ rfl;have c1:w1.cell? ⟨w.heap.size,1,none⟩=some (.string (bs [100,101])):=HB.out.cell 1 _ rfl;have c2:w1.cell? ⟨w.heap.size,2,none⟩=some (.string (bs [102,114])):=HB.out.cell 2 _ rfl;have c3:w1.cell? ⟨w.heap.size,3,none⟩=some (.string (bs [101,115])):=HB.out.cell 3 _ rfl;have z:=HB.out.lt;go_wp2_with fail
 go_loop [4] (fun i=>∃ k:Nat,k<=4/\i=.int .i64 k/\Hid (∀ j,j<k->zr2[j]? ≠ some l)) (fun i=>4 - (intOf i).toNat)
 case atStart=>exact ⟨0,Nat.zero_le _,rfl,fun j h=>by omega⟩
 case round =>
  obtain ⟨k,hk,rfl,HN⟩:=hrel;by_cases hlt:k<4
  ·rcases zwV k hlt with rfl|rfl|rfl|rfl
   ·by_cases hx:[101,110]=l
    ·subst hx;go_wp2_with fail;go_ret;exact ⟨rfl,HK.out⟩
    ·have hx':(([101,110]:Bs) == l)=false:=(by simpa using hx);have HN2:Hid (∀ j,j<1->zr2[j]? ≠ some l):=fun j hj=>by
      rcases (show j=0\/j=0 by omega) with rfl|rfl
      ·intro q;exact hx (by injection q)
      ·intro q;exact hx (by injection q)
     go_wp2_with fail
     go_round
     case rel=>exact ⟨1,by omega,by go_num,HN2.out⟩
     case measure=>simp [intOf]
   ·have n0:=HN.out 0 (by omega);by_cases hx:[100,101]=l
    ·subst hx;go_wp2_with fail;go_ret;exact ⟨rfl,HK.out⟩
    ·have hx':(([100,101]:Bs) == l)=false:=(by simpa using hx);have HN2:Hid (∀ j,j<2->zr2[j]? ≠ some l):=fun j hj=>by
      rcases (show j=0\/j=1 by omega) with rfl|rfl
      ·exact n0
      ·intro q;exact hx (by injection q)
     clear n0;go_wp2_with fail
     go_round
     case rel=>exact ⟨2,by omega,by go_num,HN2.out⟩
     case measure=>simp [intOf]
   ·by_cases hx:[102,114]=l
    ·subst hx;go_wp2_with fail;go_ret;exact ⟨rfl,HK.out⟩
    ·have hx':(([102,114]:Bs) == l)=false:=(by simpa using hx);have HN2:Hid (∀ j,j<3->zr2[j]? ≠ some l):=fun j hj=>by
      rcases (show j<2\/j=2 by omega) with h|rfl
      ·exact HN.out j h
      ·intro q;exact hx (by injection q)
     go_wp2_with fail
     go_round
     case rel=>exact ⟨3,by omega,by go_num,HN2.out⟩
     case measure=>simp [intOf]
   ·by_cases hx:[101,115]=l
    ·subst hx;go_wp2_with fail;go_ret;exact ⟨rfl,HK.out⟩
    ·have hx':(([101,115]:Bs) == l)=false:=(by simpa using hx);have HN2:Hid (∀ j,j<4->zr2[j]? ≠ some l):=fun j hj=>by
      rcases (show j<3\/j=3 by omega) with h|rfl
      ·exact HN.out j h
      ·intro q;exact hx (by injection q)
     go_wp2_with fail
     go_round
     case rel=>exact ⟨4,by omega,by go_num,HN2.out⟩
     case measure=>simp [intOf]
  ·have HI:Hid (zCP l = -1):=by
    have h:=HN.out;have h0:=h 0 (by omega);have h1:=h 1 (by omega);have h2:=h 2 (by omega);have h3:=h 3 (by omega);show _=_;unfold zCP;rw[if_neg (fun q=>h0 (by rw[q];rfl)),if_neg (fun q=>h1 (by rw[q];rfl)),if_neg (fun q=>h2 (by rw[q];rfl)),if_neg (fun q=>h3 (by rw[q];rfl))]
   clear HN;go_wp2_with fail;go_ret;exact ⟨zaG HI.out.symm,HK.out⟩
end Go.Proofs.YtmcoomlkbgiboaaGreatDoor
