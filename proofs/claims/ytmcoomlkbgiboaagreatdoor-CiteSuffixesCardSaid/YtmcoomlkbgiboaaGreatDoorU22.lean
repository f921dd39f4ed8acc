/- Helpers for Parse of style: whole structs into and out of blocks, Atoi, CutPrefix, the slice behind nine lines, a pair appended. Conditions: lengths. -/
import Derived.Test.YtmcoomlkbgiboaaGreatDoorU19
import Derived.Test.YtmcoomlkbgiboaaGreatDoorU17
import Derived.Test.YtmcoomlkbgiboaaGreatDoorU13
import Derived.Test.YtmcoomlkbgiboaaGreatDoorU16
import Derived.Test.YtmcoomlkbgiboaaGreatDoorU14
import Derived.Test.YtmcoomlkbgiboaaGreatDoorU21
import Derived.Test.YtmcoomlkbgiboaaGreatDoorU08
import Derived.Test.YtmcoomlkbgiboaaGreatDoorU09
import Derived.Test.YtmcoomlkbgiboaaGreatDoorU07
import Derived.Test.YtmcoomlkbgiboaaGreatDoorU02
import Derived.Deep.RegionLaw
import Derived.Deep.RegionHeld3
import Derived.Lib.Atoi
set_option linter.all false
set_option maxRecDepth 100000
set_option maxHeartbeats 12800000
namespace Go.Proofs.YtmcoomlkbgiboaaGreatDoor
open Go.RowKit
theorem Tryz.sizeSty:(Tryz.prog.info? 33).map (fun x=>x.size)=some 10:=by kernel_rfl
theorem zcC {w:World} {R:Nat} {vE:Value} {y:StyT} (h:Blk w R 33 (zaD vE y)) :
  (w.cell? ⟨R,0,none⟩=some (.string (bs y.name))/\w.cell? ⟨R,1,none⟩=some (.bool y.numeric)/\w.cell? ⟨R,2,none⟩=some (.string (bs y.sort))/\w.cell? ⟨R,3,none⟩=some (.string (bs y.cite))/\w.cell? ⟨R,4,none⟩=some (.string (bs y.bare))/\w.cell? ⟨R,5,none⟩=some (.string (bs y.between))/\w.cell? ⟨R,6,none⟩=some (.string (bs y.begin_))/\w.cell? ⟨R,7,none⟩=some (.string (bs y.end_))/\w.cell? ⟨R,8,none⟩=some (.int .i64 y.most)/\w.cell? ⟨R,9,none⟩=some vE)/\R<w.heap.size :=
 ⟨⟨h.cell 0 _ rfl,h.cell 1 _ rfl,h.cell 2 _ rfl,h.cell 3 _ rfl,h.cell 4 _ rfl,h.cell 5 _ rfl,h.cell 6 _ rfl,h.cell 7 _ rfl,h.cell 8 _ rfl,h.cell 9 _ rfl⟩,h.lt⟩
theorem zkC (w:World) {ops:Array Oper} {rest:List Oper} {o:Oper} {a:Act} {Q:Exit->Act->World->Prop} (hgd:o.guard=none) (s x:Operand)
  (ho:o.op=.call { callee:=.builtin .append,args:=#[s,x],argTypes:=#[22,22] })
  (base:Nat) (v:Value) (ps:List Pr) (hs:a.eval s=v) (hown:w.ownsRow base 62 2 v ps.length (zcV ps)) (q:Pr) (g:Nat) (hx:a.eval x=.slice (some ⟨g,0,none⟩) 1 1)
  (hb:Blk w g 62 #[.string (bs q.1),.string (bs q.2)]) (hl:ps.length<=1000000) (hbase:base<=w.heap.size)
  (h:∀ v' w',w'.ownsRow base 62 2 v' (ps ++ [q]).length (zcV (ps ++ [q]))->w.grownBy w' v.ownBlock->wpList Tryz.prog ops Q rest (a.put o.dst v') w') :
  wpList Tryz.prog ops Q (o :: rest) a w:=by
 obtain ⟨i0,hi,hz0,hz1,hz2⟩:=info_parts Tryz.infoPair;refine wpList_append_lies w hgd s x 22 ho base 62 i0 (.agg #[.string ⟨#[]⟩,.string ⟨#[]⟩]) 2 32 Tryz.underlying22 hi hz0 hz1 hz2 rfl (by decide) v ps.length (zcV ps) hs hown ⟨g,0,none⟩ 1 1 [.string (bs q.1),.string (bs q.2)] hx rfl (fun j u hu=>?_) (fun u hu=>?_) (by decide) (by unfold maxLen;omega) (by omega) hbase w.heap.size rfl (fun g' cap w' h1 h2 _ _=>h _ w' ?_ h2)
 ·rw[zoM,Nat.zero_add]
  match j with
  | 0=>cases hu;exact hb.cell 0 _ rfl
  | 1=>cases hu;exact hb.cell 1 _ rfl
  | j+2=>simp at hu
 ·simp at hu;rcases hu with rfl|rfl <;> rfl
 ·rw[zu9,List.length_append];exact h1
theorem zt2 {T e:TypeId} {B b:Nat} {cs:List Value} {w w':World} (h:Lib.IsBuilder T e B b cs w) (k:Kept w w'):Lib.IsBuilder T e B b cs w':=by
 have hp:∀ p,Lib.BuilderAt T e B b p cs w->Lib.BuilderAt T e B b p cs w':=fun p h=>by
  obtain ⟨h1,v,h2,h3,h4⟩:=h;have hlt:b<w.heap.size:=by
   rcases Nat.lt_or_ge b w.heap.size with q|q
   ·exact q
   ·rw[Array.getElem?_eq_none q] at h2;cases h2
  exact ⟨h1,v,by rw[k.block b hlt];exact h2,zaU h3 k,h4⟩
 exact h.imp (hp _) (hp _)
theorem zoV (n:Int) (h0 : -9223372036854775808<=n) (h1:n<=9223372036854775807):(Lib.itoa n).length<=21:=by
 have hd:∀ (k u:Nat),u<10 ^ k->1<=k->(Lib.decDigits u).length<=k:=by
  intro k
  induction k with
  | zero=>intro u _ h;omega
  | succ k ih =>
   intro u hu _;by_cases q:u<10
   ·rw[Lib.decDigits_one q];simp
   ·rw[ziI _ q,List.length_append,List.length_singleton];have hk:1<=k:=by
     rcases Nat.eq_zero_or_pos k with r|r
     ·subst r;simp at hu;omega
     ·exact r
    have:=ih (u / 10) (by rw[Nat.pow_succ] at hu;omega) hk;omega
 have h20:(10:Nat) ^ 20=100000000000000000000:=(by decide);unfold Lib.itoa
 split
 ·have:=hd 20 n.natAbs (by omega) (by omega);simp only[List.length_cons];omega
 ·have:=hd 20 n.toNat (by omega) (by omega);omega
theorem ziL (ps:List P4) (l:Bs) (most:Int) (full:Bool) (hN:ps.length<=900) (hq:∀ q∈ps,zcQ q<=10000):(zcN ps l most full).length<=20000000:=by
 have hn:=zb4 full ps hq;have ha:=zeY (zlD l);have ho:=zeN (zlD l);have hj:∀ xs:List Bs,xs.length<=900->(∀ x∈xs,x.length<=10004)->(Lib.join xs zdO).length<=9005400:=fun xs h1 h2=>by
  have:=zcJ 10004 xs h2;have h3:xs.length * (10004+2)<=900 * (10004+2):=Nat.mul_le_mul_right _ h1;omega
 unfold zcN
 split
 ·have h1:=hj ((ps.take most.toNat).map (zaE full)) (by rw[List.length_map,List.length_take];omega) (fun x hx=>by
   obtain ⟨q,hq',rfl⟩:=List.mem_map.1 hx;exact hn _ (List.mem_map.2 ⟨q,List.mem_of_mem_take hq',rfl⟩))
  simp only[List.length_append,List.length_cons,List.length_nil];omega
 ·unfold zd4
  split
  ·have:=hj (ps.map (zaE full)) (by rw[List.length_map];omega) hn;omega
  ·have h1:=hj (ps.map (zaE full)).dropLast (by rw[List.length_dropLast,List.length_map];omega) (fun x hx=>hn x ((List.dropLast_sublist _).subset hx));have h2:((ps.map (zaE full)).getLastD []).length<=10004:=by
    cases hx:(ps.map (zaE full)).getLast? with
    | none=>rw[List.getLastD_eq_getLast?,hx];simp
    | some x =>
     rw[List.getLastD_eq_getLast?,hx];exact hn x (List.mem_of_getLast? hx)
   simp only[List.length_append,List.length_cons,List.length_nil];omega
def FitV (c:FilT):Prop:=FitF c/\c.key.length<=1000000/\c.type.length<=1000000/\c.suffix.length<=1000000/\∀ p∈c.fields,p.2.length<=1000000
theorem ziM (c:FilT) (k:Bs):zmM c k=(zfB (zfR c) k).getD ((za5 c.fields k).getD []):=by
 unfold zmM zfB;cases (zfR c).find? fun e=>e.1 == k <;> rfl
theorem zyZ {ps:List Pr} {n:Nat} (h:∀ p∈ps,p.2.length<=n) (k:Bs):((za5 ps k).getD []).length<=n:=by
 unfold za5;cases hx:ps.find? fun q=>q.1 == k with
 | none=>simp
 | some p=>simpa using h p (List.mem_of_find?_eq_some hx)
theorem zt3 (c:FilT) (h:FitV c) (k:Bs):(zmM c k).length<=20000000:=by
 obtain ⟨⟨f1,f2,f3,f4,f5,f6,f7,f8⟩,g1,g2,g3,g4⟩:=h;rw[ziM];cases hx:zfB (zfR c) k with
 | none =>
  have:=zyZ g4 k;simp only[Option.getD_none];omega
 | some x =>
  simp only[Option.getD_some];unfold zfB at hx;rw[Option.map_eq_some_iff] at hx;obtain ⟨e,he,rfl⟩:=hx;have h2:=List.mem_of_find?_eq_some he;unfold zfR at h2;simp only[List.mem_cons,List.mem_nil_iff,or_false] at h2;have hy:=zfT ((za5 c.fields [121,101,97,114]).getD []);rcases h2 with rfl|rfl|rfl|rfl|rfl|rfl|rfl|rfl|rfl
  ·exact ziL _ _ _ _ f1 f3
  ·exact ziL _ _ _ _ f2 f4
  ·exact ziL _ _ _ _ f1 f3
  ·exact ziL _ _ _ _ f2 f4
  ·simp only;unfold zjC
   split
   ·simp
   ·have:=zoV (zf6 c) (by unfold zf6;omega) (by unfold zf6;omega);omega
  ·simp only;omega
  ·simp only;unfold zw0
   split
   ·simp
   ·have:=zoV c.number (by omega) (by omega);omega
  ·simp only;omega
  ·simp only;omega
theorem Tryz.zeroStr (w:World):(zeroValue 9).run Tryz.prog w=.ok (.string (bs [])) w:=by kernel_rfl
theorem Tryz.sizeSrc:(Tryz.prog.info? 50).map (fun x=>x.size)=some 5:=by kernel_rfl
theorem zDt (c:FilT) (vA vE vF:Value) (k:Bs) (X S m:Nat) (es:List (Bs × Value)) (w:World) (hX:w.cell? ⟨X,0,none⟩=some (.map (some m))) (hm:MapT w m es) (hes:∀ k,zdV es k=(zfB (zfR c) k).map (fun x=>.string (bs x)))
  (hS:Blk w S 50 #[.string (bs c.key),.string (bs c.type),vA,vE,vF]) (hF:Prs w vF c.fields) (hn:c.fields.length<=1100000) :
  Calls Tryz.prog 62 #[.string (bs k),.pointer (some ⟨X,0,none⟩),.pointer (some ⟨S,0,none⟩)] w fun e w'=>e=.returned (.string (bs (zmM c k)))/\Kept w w':=by
 have HV:=Hd (ziM c k);have lk:=zBn (P:=Tryz.prog) Tryz.underlying114 Tryz.underlying9 w m es k (.string (bs [])) (Tryz.zeroStr _) hm;rw[hes k] at lk;have hXz:=World.block_lt_of_cell? w (a:=⟨X,0,none⟩) hX;simp only at hXz;have t0:w.cell? ⟨S,0,none⟩=some (.string (bs c.key)):=hS.cell 0 _ rfl;have t1:w.cell? ⟨S,1,none⟩=some (.string (bs c.type)):=hS.cell 1 _ rfl;have t2:w.cell? ⟨S,2,none⟩=some vA:=hS.cell 2 _ rfl;have t3:w.cell? ⟨S,3,none⟩=some vE:=hS.cell 3 _ rfl;have t4:w.cell? ⟨S,4,none⟩=some vF:=hS.cell 4 _ rfl;have z0:=hS.lt;have HFD:=Hd (zlH c.key c.type vA vE vF c.fields k w hF hn);unfold FieldPost at HFD;clear hm hes hS hF;cases hx:zfB (zfR c) k with
 | some x =>
  rw[hx] at HV lk;simp only[Option.map_some,Option.getD_some,Option.isSome_some] at HV lk;rw[HV.out];clear hx;go_enter Tryz.func62,Tryz.ntmps62;go_wp2_with fail;go_ret;exact ⟨rfl,Kept.refl _⟩
 | none =>
  rw[hx] at HV lk;simp only[Option.map_none,Option.getD_none,Option.isSome_none] at HV lk;rw[HV.out];clear hx;generalize (za5 c.fields k).getD []=r at *;generalize (za5 c.fields k).isSome=b at *;go_enter Tryz.func62,Tryz.ntmps62;go_wp2_with fail;refine HFD.out.mono ?_;rintro e w1 ⟨rfl,hk1⟩;have HK:=Hd hk1;clear hk1;go_wp2_with fail;go_ret;exact ⟨rfl,HK.out⟩
def zdD (c:FilT) (t:Bs):Bs:=zsT (zeK t) (zmM c)
theorem zvT (ps:List Pc) (val:Bs->Bs) (k:Nat) (hk:k<ps.length):zcM (ps.take (k+1)) val=zcM (ps.take k) val ++ (if (ps[k].fld && (!(ps[k].grp == 0) && (val ps[k].txt == [])))=true then [(ps[k].grp:Int)] else []):=by
 rw[List.take_succ_eq_append_getElem hk];unfold zcM;rw[List.filter_append,List.map_append];by_cases h:(ps[k].fld && (!(ps[k].grp == 0) && (val ps[k].txt == [])))=true
 ·rw[if_pos h,List.filter_cons,if_pos h];rfl
 ·rw[if_neg h,List.filter_cons,if_neg h];rfl
theorem zy0 (ps:List Pc) (f:Pc->Bs) (k:Nat) (hk:k<ps.length):(ps.take (k+1)).flatMap f=(ps.take k).flatMap f ++ f ps[k]:=by
 rw[List.take_succ_eq_append_getElem hk,List.flatMap_append];simp
theorem zBt (ps:List Pc) (f:Pc->Bs) (n:Nat) (h:∀ p∈ps,(f p).length<=n):(ps.flatMap f).length<=ps.length * n:=by
 induction ps with
 | nil=>simp
 | cons p ps ih =>
  rw[List.flatMap_cons,List.length_append,List.length_cons,Nat.succ_mul];have h1:=h p (List.mem_cons_self ..);have h2:=ih (fun q hq=>h q (List.mem_cons_of_mem _ hq));omega
theorem zq0 (c:FilT) (t:Bs) (vA vE vF vY:Value) (y:StyT) (w:World) (hy:y.most=c.most) (hYo:vY.oneCell'=true) (hg:Gnd w) (hT:Lib.TabIs Tryz.prog w "internal/strconv.uint64pow10" .u64 Lib.pow10Tab) (ht:t.length<=100000) (hs:FitV c)
  (hA:Perss w vA c.author) (hE:Perss w vE c.editor) (hF:Prs w vF c.fields) :
  Calls Tryz.prog 23 #[.string (bs t),zhB c.key c.type vA vE vF,zdU vY y,.string (bs c.lang),.string (bs c.suffix),.int .i64 c.number] w fun e w'=>e=.returned (.tuple #[.string (bs (zdD c t)),.int .i64 (zcW t)])/\Kept w w':=by
 have HG:=Hd hg;have HSP:=Hd (fun w h=>zgW t w h ht);unfold SplitP at HSP;have HT:=Hd hT;have HA:=Hd hA;have HE:=Hd hE;have HF:=Hd hF;have HSV:=Hd (fun w h1 h2 h3 h4=>zyX c vA vE vF vY y w hy h1 h2 h3 h4 hs.1);unfold ValsP at HSV;have HVL:=Hd (fun k=>zt3 c hs k);have HCLO:=Hd (fun k X S m es w h1 h2 h3 h4 h5=>zDt c vA vE vF k X S m es w h1 h2 h3 h4 h5 hs.1.2.2.2.2.2.1);have hln:=ztX t;have HPL:Hid (∀ p∈zeK t,p.txt.length<=100000):=fun p hp=>(by have:=(zoQ p hp).2.1;omega);have HFS:Hid (zdD c t=zsT (zeK t) (zmM c)):=rfl;have HNIL:Hid (zcW t≠0->zdD c t=[]):=fun h=>by
  have:zeK t=[]:=(by unfold zeK;rw[if_neg h]);unfold zdD;rw[this];rfl
 clear hg hT hA hE hF hs hy;generalize zdD c t=T at *;generalize zcW t=E at *;generalize zeK t=ps at *;generalize zfR c=sp at *;generalize zmM c=val at *;unfold zdU zaD zhB at HSV ⊢;have HS0:=Hd (Blk.new w 50 #[.string (bs c.key),.string (bs c.type),vA,vE,vF]);have HK0:=Hd (zaA w (.cells #[.string (bs c.key),.string (bs c.type),vA,vE,vF] 50));have HS1:=Hd (Blk.new (w.alloc (.cells #[.string (bs c.key),.string (bs c.type),vA,vE,vF] 50)) 33 (zaD vY y));have HK1:=Hd (zaA (w.alloc (.cells #[.string (bs c.key),.string (bs c.type),vA,vE,vF] 50)) (.cells (zaD vY y) 33));unfold zaD at HK1;have e1:(w.alloc (.cells #[.string (bs c.key),.string (bs c.type),vA,vE,vF] 50)).heap.size=w.heap.size+1:=(by simp);rw[e1] at HS1;unfold zaD at HS1;go_enter Tryz.func23,Tryz.ntmps23;go_wp2_with fail;have HSA:=Hd (HS0.out.kept HK1.out);have HKW:=Hd (HK0.out.trans HK1.out);clear HS0 HK0 HK1 e1;generalize World.alloc (World.alloc _ _) _=w0 at HS1 HSA HKW ⊢;obtain ⟨S,HSS⟩:∃ B,Hid (w.heap.size=B):=⟨_,rfl⟩;rw[HSS.out] at HS1 HSA ⊢;refine (HSP.out _ (HG.out.kept HKW.out)).mono ?_;rintro e w1 ⟨v,rfl,hp,hk1⟩;have HP1:=Hd hp;have HKW1:=Hd (HKW.out.trans hk1);have HSA1:=Hd (HSA.out.kept hk1);have HSY1:=Hd (HS1.out.kept hk1);obtain ⟨ap,cp,rfl,hcp⟩:=hp.form;clear hp hk1 HSP HSA HS1 HKW;by_cases hE0:E=0
 case neg =>
  have hE':(E == 0)=false:=(by rw[beq_eq_false_iff_ne];exact hE0);have HNN:=Hd (HNIL.out hE0);clear hE0;go_wp2_with fail;go_ret2;exact ⟨by rw[HNN.out];rfl,HKW1.out⟩
 subst hE0;have hone:(#[.string (bs y.name),.bool y.numeric,.string (bs y.sort),.string (bs y.cite),.string (bs y.bare),.string (bs y.between),.string (bs y.begin_),.string (bs y.end_),.int .i64 y.most,vY]:Array Value).size=10:=rfl;go_wp2_with (first
  | (refine zaW (by rfl) 50 (.tmp 7) (by rfl) S _ (by rfl) HSA1.out _ Tryz.underlying50 rfl Tryz.sizeSrc ?_)
  | (refine zaW (by rfl) 33 (.tmp 8) (by rfl) (S+1) _ (by rfl) HSY1.out _ Tryz.underlying33 rfl Tryz.sizeSty ?_))
 refine (HSV.out _ (HA.out.kept HKW1.out) (HE.out.kept HKW1.out) (HF.out.kept HKW1.out) (zeO HT.out HKW1.out)).mono ?_;rintro e w2 ⟨m,es,rfl,hmz,hmap,hget,hk2⟩;have HKW2:=Hd (HKW1.out.trans hk2);have HSA2:=Hd (HSA1.out.kept hk2);have HP2:=Hd (HP1.out.kept hk2);have HMT2:=Hd hmap;have HGET:=Hd hget;clear hmz hmap hget hk2 HSV HSA1 HSY1 HP1 hone;have mk:=fun w=>run_makeMap (P:=Tryz.prog) 116 w;go_wp2_with fail;have HCX:=Hd (Blk.new w2 114 #[.map (some m)]);have HKX:=Hd (zaA w2 (.cells #[.map (some m)] 114));have HMX:=Hd (MapV.made (w2.alloc (.cells #[.map (some m)] 114)));have HKX2:=Hd (zaA (w2.alloc (.cells #[.map (some m)] 114)) (.map #[] 0));have e1:(w2.alloc (.cells #[.map (some m)] 114)).heap.size=w2.heap.size+1:=(by simp);rw[e1] at HMX;have hDz:(w2.alloc (.cells #[.map (some m)] 114)).heap.size<=w2.heap.size+1:=(by rw[e1];exact Nat.le_refl _);clear e1;obtain ⟨X,HXX⟩:∃ X,Hid (w2.heap.size=X):=⟨_,rfl⟩;rw[HXX.out] at HCX HMX hDz ⊢;have HCL:Hid (∀ k w',Kept (w2.alloc (.cells #[.map (some m)] 114)) w'->Calls Tryz.prog 62 #[.string (bs k),.pointer (some ⟨X,0,none⟩),.pointer (some ⟨S,0,none⟩)] w' fun e w''=>e=.returned (.string (bs (val k)))/\Kept w' w''):=fun k w' hk=>HCLO.out k X S m es w' ((HCX.out.kept hk).cell 0 _ rfl) (HMT2.out.kept (HKX.out.trans hk)) HGET.out (HSA2.out.kept (HKX.out.trans hk)) (HF.out.kept (HKW2.out.trans (HKX.out.trans hk)));have HPX:=Hd (HP2.out.kept HKX.out);have HKWX:=Hd (HKW2.out.trans HKX.out);generalize World.alloc w2 _=wX at *;have HTK:=Hd (zvT ps val);have HO0:Hid (zcM (ps.take 0) val=[]):=rfl;have HON:Hid (zcM (ps.take ps.length) val=zcM ps val):=(by show _=_;rw[List.take_of_length_le (Nat.le_refl _)]);clear HCLO HMT2 HGET HSA2 HKW2 HKX HP2 HT HA HE HF HCX mk HXX;obtain ⟨D,HDD⟩:∃ D,Hid (X+1=D):=⟨_,rfl⟩;rw[HDD.out] at HMX hDz ⊢
 (try simp only[zcO])
 go_loopw [42] (fun i wr=>∃ k:Nat,k<=ps.length/\i=.int .i64 k/\Hid (MapV wr D (ze4 (zcM (ps.take k) val)))/\Hid (Kept wX wr)) (fun i _=>ps.length - (intOf i).toNat)
 case atStart=>exact ⟨0,Nat.zero_le _,rfl,HMX.out,HKX2.out⟩
 case round =>
  clear HMX HKX2;obtain ⟨k,hk,rfl,HM,HKR⟩:=hrel;by_cases hlt:k<ps.length
  ·have hx:=List.getElem?_eq_getElem hlt;obtain ⟨g,o,rfl,hg,d0,d1,d2⟩:=(HPX.out.kept HKR.out).cell_of k _ hx;have HST:=Hd (HTK.out k hlt);generalize ps[k]=p at *;obtain ⟨x,f,gr⟩:=p;simp only at d0 d1 d2 HST;clear hx;cases f with
   | false =>
    have HST2:Hid (zcM (ps.take (k+1)) val=zcM (ps.take k) val):=(by show _=_;rw[HST.out];simp);have HM2:=Hd (HM.out.kept (zaA wr (.cells #[.string (bs x),.bool false,.int .i64 gr] 118)));have HK2:=Hd (HKR.out.trans (zaA wr (.cells #[.string (bs x),.bool false,.int .i64 gr] 118)));rw[<- HST2.out] at HM2;clear HM HKR HST;go_wp2_with fail;go_roundw
    case rel=>exact ⟨k+1,by omega,by go_num,HM2.out,HK2.out⟩
    case measure=>simp [intOf];omega
   | true =>
    cases h3:(gr == 0) with
    | true =>
     obtain rfl:gr=0:=(by simpa using h3);have HST2:Hid (zcM (ps.take (k+1)) val=zcM (ps.take k) val):=(by show _=_;rw[HST.out];simp);have HM2:=Hd (HM.out.kept (zaA wr (.cells #[.string (bs x),.bool true,.int .i64 (0:Nat)] 118)));have HK2:=Hd (HKR.out.trans (zaA wr (.cells #[.string (bs x),.bool true,.int .i64 (0:Nat)] 118)));rw[<- HST2.out] at HM2;clear HM HKR HST h3;go_wp2_with fail;go_roundw
     case rel=>exact ⟨k+1,by omega,by go_num,HM2.out,HK2.out⟩
     case measure=>simp [intOf];omega
    | false =>
     have h3':((gr:Int) == 0)=false:=by
      rw[beq_eq_false_iff_ne] at h3 ⊢;omega
     have h3n:((gr:Int) != 0)=true:=(by rw[bne,h3'];rfl);have h3g:0<gr:=(by rw[beq_eq_false_iff_ne] at h3;omega);rw[h3] at HST;have HMA:=Hd (HM.out.kept (zaA wr (.cells #[.string (bs x),.bool true,.int .i64 gr] 118)));have HKA:=Hd (HKR.out.trans (zaA wr (.cells #[.string (bs x),.bool true,.int .i64 gr] 118)));have HBA:=Hd (Blk.new wr 118 #[.string (bs x),.bool true,.int .i64 gr]);have HCX:=Hd (fun w' h=>HCL.out x w' h);clear HM HKR;cases hv:(val x == ([]:Bs)) with
     | false =>
      have HST2:Hid (zcM (ps.take (k+1)) val=zcM (ps.take k) val):=(by show _=_;rw[HST.out,hv];simp);rw[<- HST2.out] at HMA;generalize val x=vx at *;go_wp2_with fail;refine (HCX.out _ HKA.out).mono ?_;rintro e w5 ⟨rfl,hk5⟩;have HM5:=Hd (HMA.out.kept hk5);have HK5:=Hd (HKA.out.trans hk5);clear hk5 HMA HKA;go_wp2_with fail;go_roundw
      case rel=>exact ⟨k+1,by omega,by go_num,HM5.out,HK5.out⟩
      case measure=>simp [intOf];omega
     | true =>
      have HST2:Hid (zcM (ps.take (k+1)) val=zcM (ps.take k) val ++ [(gr:Int)]):=(by show _=_;rw[HST.out,hv];rfl);have UP:Hid (∀ w',MapV w' D (ze4 (zcM (ps.take k) val))->(Instr.mapUpdate 116 (.map (some D)) (.int .i64 gr) (.bool true)).run Tryz.prog w'=.ok () (zoI w' D (ze4 (zcM (ps.take (k+1)) val)))):=fun w' hm=>by
       rw[HST2.out];cases hgv:zdG (ze4 (zcM (ps.take k) val)) (gr:Int) with
       | none =>
        rw[ze5,hgv];exact zEt (P:=Tryz.prog) Tryz.underlying116 Tryz.underlying3 w' _ _ gr (.bool true) hm hgv
       | some u =>
        have hu:u=.bool true:=by
         have:=zsR (zcM (ps.take k) val) gr;rw[hgv] at this
         split at this
         ·exact Option.some.inj this
         ·cases this
        subst hu;rw[ze5,hgv];exact zx5 (P:=Tryz.prog) Tryz.underlying116 Tryz.underlying3 w' _ _ gr (.bool true) hm hgv
      generalize val x=vx at *;go_wp2_with fail;refine (HCX.out _ HKA.out).mono ?_;rintro e w5 ⟨rfl,hk5⟩;have HM5:=Hd (HMA.out.kept hk5);have HK5:=Hd (HKA.out.trans hk5);have c2:w5.cell? ⟨wr.heap.size,2,none⟩=some (.int .i64 gr):=(HBA.out.kept hk5).cell 2 _ rfl;have zc:=(HBA.out.kept hk5).lt;have up:=UP.out _ HM5.out;have HM6:=Hd (zh5 w5 D (ze4 (zcM (ps.take (k+1)) val)) HM5.out.lt);have HK6:=Hd (zcB HK5.out (zc6 w5 D (ze4 (zcM (ps.take (k+1)) val))) hDz);clear hk5 HMA HKA;go_wp2_with fail;go_roundw
      case rel=>exact ⟨k+1,by omega,by go_num,HM6.out,HK6.out⟩
      case measure=>simp [intOf];omega
  ·obtain rfl:k=ps.length:=(by omega);rw[HON.out] at HM;have HPC:=Hd (HPX.out.kept HKR.out);have HCC:Hid (∀ k w',Kept wr w'->Calls Tryz.prog 62 #[.string (bs k),.pointer (some ⟨X,0,none⟩),.pointer (some ⟨S,0,none⟩)] w' fun e w''=>e=.returned (.string (bs (val k)))/\Kept w' w''):=fun k w' hk=>HCL.out k w' (HKR.out.trans hk);have HKC:=Hd (HKWX.out.trans HKR.out);clear HTK HO0 HON HCL HPX HKWX HKR hlt;obtain ⟨DS,HDS⟩:∃ l,Hid (zcM ps val=l):=⟨_,rfl⟩;rw[HDS.out] at HM;have HFT:Hid (T=(ps.take ps.length).flatMap (ziH val DS)):=by
    show _=_;rw[HFS.out,List.take_of_length_le (Nat.le_refl _)];unfold zsT;rw[HDS.out]
   have HFN:=Hd (zy0 ps (ziH val DS));have HFL:Hid (∀ k,((ps.take k).flatMap (ziH val DS)).length<=2000000000000):=fun k=>by
    have h1:=zBt (ps.take k) (ziH val DS) 20000000 (fun p hp=>by
     unfold ziH
     split
     ·simp
     ·split
      ·exact HVL.out _
      ·have:=HPL.out p (List.mem_of_mem_take hp);omega)
    have h2:(ps.take k).length<=100000:=(by rw[List.length_take];omega);omega
   have HMC:=Hd HM.out;have hwz:w.heap.size<=wr.heap.size:=HKC.out.size;clear HM HFS HDS;go_wp2_with fail
   (try simp only[zcO])
   obtain ⟨wC,rfl⟩:∃ wo:World,wo=wr:=⟨_,rfl⟩;go_loopw [66] (fun i wr=>∃ k:Nat,k<=ps.length/\i=.int .i64 k/\Hid (Lib.IsBuilder 122 5 wC.heap.size wC.heap.size (Lib.byteCells ((ps.take k).flatMap (ziH val DS))) wr)/\Hid (Kept wC wr)) (fun i _=>ps.length - (intOf i).toNat)
   case atStart =>
    refine ⟨0,Nat.zero_le _,rfl,?_,zaA _ _⟩;show Lib.IsBuilder _ _ _ _ _ _;refine .inl ⟨Nat.le_refl _,.slice none 0 0,?_,World.ownsRow_nil _ _ _ _,by simp [Value.ownBlock]⟩;exact heap_alloc_new wC _
   case round =>
    obtain ⟨k,hk,rfl,HB,HKR⟩:=hrel;by_cases hlt:k<ps.length
    ·have hx:=List.getElem?_eq_getElem hlt;obtain ⟨g,o,rfl,hg,d0,d1,d2⟩:=(HPC.out.kept HKR.out).cell_of k _ hx;have HST:=Hd (HFN.out k hlt);have HPT:=Hd (HPL.out _ (List.getElem_mem hlt));generalize ps[k]=p at *;obtain ⟨x,f,gr⟩:=p;simp only at d0 d1 d2 HST HPT;have hfl:=HFL.out k;generalize (ps.take k).flatMap (ziH val DS)=O at *;have HBA:=Hd (zt2 HB.out (zaA wr (.cells #[.string (bs x),.bool f,.int .i64 gr] 118)));have HKA:=Hd (HKR.out.trans (zaA wr (.cells #[.string (bs x),.bool f,.int .i64 gr] 118)));have HQA:=Hd (Blk.new wr 118 #[.string (bs x),.bool f,.int .i64 gr]);have lk:=zvF (P:=Tryz.prog) Tryz.underlying116 Tryz.underlying3 (wr.alloc (.cells #[.string (bs x),.bool f,.int .i64 gr] 118)) D (ze4 DS) (gr:Int) (.bool false) (Tryz.zeroBool _) (HMC.out.kept HKA.out);rw[zgV] at lk;have HFP:ziH val DS ⟨x,f,gr⟩=if DS.contains (gr:Int)=true then [] else if f=true then val x else x:=rfl;rw[HFP] at HST;clear HFP;clear hx HB HKR;cases hct:DS.contains (gr:Int) with
     | true =>
      rw[hct] at HST lk;simp only[if_true,List.append_nil] at HST;clear hct;rw[<- HST.out] at HBA;go_wp2_with fail;go_roundw
      case rel=>exact ⟨k+1,by omega,by go_num,HBA.out,HKA.out⟩
      case measure=>simp [intOf];omega
     | false =>
      rw[hct] at HST lk;simp only[Bool.false_eq_true,if_false] at HST;clear hct;cases f with
      | false =>
       simp only[Bool.false_eq_true,if_false] at HST;go_wp2_with fail;refine (zi2 wC.heap.size wC.heap.size _ x _ HBA.out (by rw[Lib.byteCells_length];have:=HPT.out;omega) HKA.out.size).mono ?_;rintro e w5 ⟨rfl,hb5,hbe5⟩;have HB5:Hid (Lib.IsBuilder 122 5 wC.heap.size wC.heap.size (Lib.byteCells ((ps.take (k+1)).flatMap (ziH val DS))) w5):=by
        refine .inr ?_;show Lib.BuilderAt _ _ _ _ _ _ _;rw[HST.out,zh6];exact hb5
       have HK5:=Hd (HKA.out.trans' hbe5);clear hb5 hbe5;go_wp2_with fail;go_roundw
       case rel=>exact ⟨k+1,by omega,by go_num,HB5.out,HK5.out⟩
       case measure=>simp [intOf];omega
      | true =>
       simp only[if_true] at HST;have HCX:=Hd (fun w' h=>HCC.out x w' h);have hvl:=HVL.out x;generalize val x=vx at HCX HST hvl;go_wp2_with fail;refine (HCX.out _ HKA.out).mono ?_;rintro e w4 ⟨rfl,hk4⟩;have HB4:=Hd (zt2 HBA.out hk4);have HK4:=Hd (HKA.out.trans hk4);clear hk4;go_wp2_with fail;refine (zi2 wC.heap.size wC.heap.size _ vx _ HB4.out (by rw[Lib.byteCells_length];omega) HK4.out.size).mono ?_;rintro e w5 ⟨rfl,hb5,hbe5⟩;have HB5:Hid (Lib.IsBuilder 122 5 wC.heap.size wC.heap.size (Lib.byteCells ((ps.take (k+1)).flatMap (ziH val DS))) w5):=by
        refine .inr ?_;show Lib.BuilderAt _ _ _ _ _ _ _;rw[HST.out,zh6];exact hb5
       have HK5:=Hd (HK4.out.trans' hbe5);clear hb5 hbe5;go_wp2_with fail;go_roundw
       case rel=>exact ⟨k+1,by omega,by go_num,HB5.out,HK5.out⟩
       case measure=>simp [intOf];omega
    ·obtain rfl:k=ps.length:=(by omega);rw[<- HFT.out] at HB;go_wp2_with fail;refine (Tryz.Builder_String_any wC.heap.size wC.heap.size T _ HB.out HKR.out.size).mono ?_;rintro e w5 ⟨rfl,hb5⟩;have HK5:=Hd (HKC.out.trans (HKR.out.trans' hb5));clear hb5;go_wp2_with fail;go_ret2;exact ⟨rfl,HK5.out⟩
end Go.Proofs.YtmcoomlkbgiboaaGreatDoor
namespace Go.Proofs.YtmcoomlkbgiboaaGreatDoor
open Go.ChangeShapes Go.WideShapes Go.ChangeAt Go.RowKit Go.Joins
theorem Tryz.cellsIntY:Tryz.prog.cellsOf 3=1:=by kernel_rfl
theorem Tryz.cellsBoolY:Tryz.prog.cellsOf 4=1:=by kernel_rfl
theorem zFe {n:Int} (h:(Lit.int .i64 n).wf=true) : -9223372036854775808<=n/\n<=9223372036854775807:=by
 have:=h;simp [Lit.wf,IntKind.min,IntKind.max,IntKind.signed,IntKind.bits] at this;omega
section
variable {H:Type} {enc:TypeId × Value->H} {w:World} {base:Nat} {spare:Nat->Bool} {held:Bool}
theorem Tryz.cellsLfYY:Tryz.prog.cellsOf 22=1:=by kernel_rfl
theorem zBu {n:Nat} {v:Value} {y:DataW H × List MemPlace} (h:DataW.trod enc Tryz.prog w base spare held n 3 [v]=some y):∃ i:Int,v=.int .i64 i /\ -9223372036854775808<=i/\i<=9223372036854775807:=by
 obtain ⟨i,h1,_,h3⟩:=DataW.trod_int Tryz.underlying3 h;simp at h1;exact ⟨i,h1,zFe h3⟩
theorem zDu {n:Nat} {v:Value} {y:DataW H × List MemPlace} (h:DataW.trod enc Tryz.prog w base spare held n 4 [v]=some y):∃ b:Bool,v=.bool b:=by
 obtain ⟨b,h1,_⟩:=DataW.trod_bool Tryz.underlying4 h;simp at h1;exact ⟨b,h1⟩
theorem Tryz.cellsSty:Tryz.prog.cellsOf 33=10:=by kernel_rfl
def FitY (y:StyT):Prop:=y.name.length<=140737488355328/\y.sort.length<=140737488355328/\y.cite.length<=140737488355328/\y.bare.length<=140737488355328/\y.between.length<=140737488355328/\y.begin_.length<=140737488355328/\y.end_.length<=140737488355328/\(-9223372036854775808<=y.most/\y.most<=9223372036854775807)/\y.entries.length<=140737488355328/\∀ p∈y.entries,p.1.length<=140737488355328/\p.2.length<=140737488355328
theorem zBv {r:Reach} {b0:Nat} {v:Value} {d:DataW H} {p:List MemPlace} (hv:Value.okWide Tryz.prog w r b0 33 v) (h:DataW.Trod enc Tryz.prog w base spare held 33 v d p) (hli:Light 33 d) :
  ∃ (y:StyT) (vE:Value),v=zdU vE y/\Prs w vE y.entries/\FitY y:=by
 obtain ⟨cs,rfl,hsz⟩:=okWide_struct Tryz.underlying33 hv;rw[Tryz.cellsSty] at hsz;obtain ⟨l⟩:=cs;have h0:l.length=10:=hsz;clear hsz;obtain ⟨x0,l1,rfl,h1⟩:=zaF h0;obtain ⟨x1,l2,rfl,h2⟩:=zaF h1;obtain ⟨x2,l3,rfl,h3⟩:=zaF h2;obtain ⟨x3,l4,rfl,h4⟩:=zaF h3;obtain ⟨x4,l5,rfl,h5⟩:=zaF h4;obtain ⟨x5,l6,rfl,h6⟩:=zaF h5;obtain ⟨x6,l7,rfl,h7⟩:=zaF h6;obtain ⟨x7,l8,rfl,h8⟩:=zaF h7;obtain ⟨x8,l9,rfl,h9⟩:=zaF h8;obtain ⟨x9,l10,rfl,h10⟩:=zaF h9;obtain rfl:=List.length_eq_zero_iff.1 h10;clear h0 h1 h2 h3 h4 h5 h6 h7 h8 h9 h10;obtain ⟨fuel,hf⟩:=h;simp only[Value.cells] at hf;obtain ⟨xs,n,_,hx,_,hlen,hp⟩:=DataW.trod_struct Tryz.underlying33 hf;have hlen':xs.length=10:=hlen;obtain ⟨y0,l1,rfl,h1⟩:=zaF hlen';obtain ⟨y1,l2,rfl,h2⟩:=zaF h1;obtain ⟨y2,l3,rfl,h3⟩:=zaF h2;obtain ⟨y3,l4,rfl,h4⟩:=zaF h3;obtain ⟨y4,l5,rfl,h5⟩:=zaF h4;obtain ⟨y5,l6,rfl,h6⟩:=zaF h5;obtain ⟨y6,l7,rfl,h7⟩:=zaF h6;obtain ⟨y7,l8,rfl,h8⟩:=zaF h7;obtain ⟨y8,l9,rfl,h9⟩:=zaF h8;obtain ⟨y9,l10,rfl,h10⟩:=zaF h9;obtain rfl:=List.length_eq_zero_iff.1 h10;clear h1 h2 h3 h4 h5 h6 h7 h8 h9 h10 hlen hlen';have g0:=hp 0 _ rfl;have g1:=hp 1 _ rfl;have g2:=hp 2 _ rfl;have g3:=hp 3 _ rfl;have g4:=hp 4 _ rfl;have g5:=hp 5 _ rfl;have g6:=hp 6 _ rfl;have g7:=hp 7 _ rfl;have g8:=hp 8 _ rfl;have g9:=hp 9 _ rfl;clear hp;simp only[Tryz.cellsStr,Tryz.cellsLfYY,Tryz.cellsIntY,Tryz.cellsBoolY,List.drop_succ_cons,List.drop_zero,List.take_succ_cons,List.take_zero,List.getElem?_cons_zero,List.getElem?_cons_succ] at g0 g1 g2 g3 g4 g5 g6 g7 g8 g9;simp only[Prod.mk.injEq,List.map_cons,List.map_nil] at hx;obtain ⟨hx,_⟩:=hx;subst hx;obtain ⟨k0,rfl,f0⟩:=zbH g0 (Light.part Tryz.underlying33 hli (j:=0) rfl rfl);obtain ⟨k1,rfl⟩:=zDu g1;obtain ⟨k2,rfl,f2⟩:=zbH g2 (Light.part Tryz.underlying33 hli (j:=2) rfl rfl);obtain ⟨k3,rfl,f3⟩:=zbH g3 (Light.part Tryz.underlying33 hli (j:=3) rfl rfl);obtain ⟨k4,rfl,f4⟩:=zbH g4 (Light.part Tryz.underlying33 hli (j:=4) rfl rfl);obtain ⟨k5,rfl,f5⟩:=zbH g5 (Light.part Tryz.underlying33 hli (j:=5) rfl rfl);obtain ⟨k6,rfl,f6⟩:=zbH g6 (Light.part Tryz.underlying33 hli (j:=6) rfl rfl);obtain ⟨k7,rfl,f7⟩:=zbH g7 (Light.part Tryz.underlying33 hli (j:=7) rfl rfl);obtain ⟨k8,rfl,f8⟩:=zBu g8;obtain ⟨k9,p9,m9,f9⟩:=znB g9 (Light.part Tryz.underlying33 hli (j:=9) rfl rfl);exact ⟨⟨k0,k1,k2,k3,k4,k5,k6,k7,k8,k9⟩,x9,rfl,p9,f0,f2,f3,f4,f5,f6,f7,f8,m9,f9⟩
end
end Go.Proofs.YtmcoomlkbgiboaaGreatDoor
namespace Go.Proofs.YtmcoomlkbgiboaaGreatDoor
open Go.RowKit
structure Cit where
 key:Bs
 pre:Bs
 suf:Bs
 bare:Bool
inductive Inl where
 | mk (kind:Int) (text dest title id:Bs) (cls:List Bs) (prs:List Pr) (args:List Bs) (cits:List Cit) (kids:List Inl)
def Inl.kind:Inl->Int|.mk k _ _ _ _ _ _ _ _ _=>k
def Inl.text:Inl->Bs|.mk _ k _ _ _ _ _ _ _ _=>k
def Inl.dest:Inl->Bs|.mk _ _ k _ _ _ _ _ _ _=>k
def Inl.title:Inl->Bs|.mk _ _ _ k _ _ _ _ _ _=>k
def Inl.id:Inl->Bs|.mk _ _ _ _ k _ _ _ _ _=>k
def Inl.cls:Inl->List Bs|.mk _ _ _ _ _ k _ _ _ _=>k
def Inl.prs:Inl->List Pr|.mk _ _ _ _ _ _ k _ _ _=>k
def Inl.args:Inl->List Bs|.mk _ _ _ _ _ _ _ k _ _=>k
def Inl.cits:Inl->List Cit|.mk _ _ _ _ _ _ _ _ k _=>k
def Inl.kids:Inl->List Inl|.mk _ _ _ _ _ _ _ _ _ k=>k
inductive Blo where
 | mk (kind level:Int) (info text dest title id:Bs) (cls:List Bs) (prs:List Pr) (line:List Inl) (kids:List Blo)
def Blo.kind:Blo->Int|.mk k _ _ _ _ _ _ _ _ _ _=>k
def Blo.level:Blo->Int|.mk _ k _ _ _ _ _ _ _ _ _=>k
def Blo.info:Blo->Bs|.mk _ _ k _ _ _ _ _ _ _ _=>k
def Blo.text:Blo->Bs|.mk _ _ _ k _ _ _ _ _ _ _=>k
def Blo.dest:Blo->Bs|.mk _ _ _ _ k _ _ _ _ _ _=>k
def Blo.title:Blo->Bs|.mk _ _ _ _ _ k _ _ _ _ _=>k
def Blo.id:Blo->Bs|.mk _ _ _ _ _ _ k _ _ _ _=>k
def Blo.cls:Blo->List Bs|.mk _ _ _ _ _ _ _ k _ _ _=>k
def Blo.prs:Blo->List Pr|.mk _ _ _ _ _ _ _ _ k _ _=>k
def Blo.line:Blo->List Inl|.mk _ _ _ _ _ _ _ _ _ k _=>k
def Blo.kids:Blo->List Blo|.mk _ _ _ _ _ _ _ _ _ _ k=>k
def Sam (S:Nat->Prop) (w w':World):Prop:=∀ g,g<w.heap.size->S g->w'.heap[g]? = w.heap[g]?
theorem Sam.lt {S:Nat->Prop} {w w':World} (h:Sam S w w') {g:Nat} (hg:g<w.heap.size) (hs:S g):g<w'.heap.size:=by
 rcases Nat.lt_or_ge g w'.heap.size with q|q
 ·exact q
 ·have:=h g hg hs;rw[Array.getElem?_eq_none q,Array.getElem?_eq_getElem hg] at this;cases this
theorem Sam.cell {S:Nat->Prop} {w w':World} (h:Sam S w w') {g:Nat} (o:Nat) (hg:g<w.heap.size) (hs:S g):w'.cell? ⟨g,o,none⟩=w.cell? ⟨g,o,none⟩:=World.cell?_of_block (a:=⟨g,o,none⟩) (h g hg hs)
theorem Sam.only {S T:Nat->Prop} {w w':World} (k:Only T w w') (hs:∀ g,g<w.heap.size->S g->¬ T g):Sam S w w':=fun g hg h=>k.block g hg (hs g hg h)
theorem Sam.kept {S:Nat->Prop} {w w':World} (k:Kept w w'):Sam S w w':=fun g hg _=>k.block g hg
def InB (S:Nat->Prop) (v:Value) (n:Nat):Prop:=0<n->∀ g,v.ownBlock=some g->S g
theorem InB.mono {S S':Nat->Prop} {v:Value} {n:Nat} (h:InB S v n) (k:∀ g,v.ownBlock=some g->0<n->S g->S' g):InB S' v n:=fun q g hg=>k g hg q (h q g hg)
theorem InB.nil (S:Nat->Prop) (v:Value):InB S v 0:=fun q=>absurd q (Nat.lt_irrefl 0)
def RowR {α:Type} (S:Nat->Prop) (k:Nat) (R:List Value->α->Prop) (w:World) (v:Value) (xs:List α):Prop :=
 ∃ a c,v=.slice a xs.length c/\xs.length<=c/\(0<xs.length->∃ g o,a=some ⟨g,o,none⟩/\g<w.heap.size/\S g /\
  ∀ j x,xs[j]? = some x->∃ cs:List Value,cs.length=k/\(∀ i u,cs[i]? = some u->w.cell? ⟨g,o+j * k+i,none⟩=some u)/\R cs x)
section
variable {α:Type} {S S' T:Nat->Prop} {k:Nat} {R R':List Value->α->Prop} {w w':World} {v:Value} {xs:List α}
theorem RowR.form (h:RowR S k R w v xs):∃ a c,v=.slice a xs.length c/\xs.length<=c:=by
 obtain ⟨a,c,hv,hc,_⟩:=h;exact ⟨a,c,hv,hc⟩
theorem RowR.at_ {a:Option Addr} {n c:Nat} (h:RowR S k R w (.slice a n c) xs) (j:Nat) (x:α) (hx:xs[j]? = some x) :
  ∃ g o cs,a=some ⟨g,o,none⟩/\g<w.heap.size/\S g/\cs.length=k/\(∀ i u,cs[i]? = some u->w.cell? ⟨g,o+j * k+i,none⟩=some u)/\R cs x/\n=xs.length/\xs.length<=c:=by
 obtain ⟨a',c',hv,hc,h3⟩:=h;obtain ⟨rfl,rfl,rfl⟩:=Value.slice.inj hv;obtain ⟨hk,_⟩:=List.getElem?_eq_some_iff.1 hx;obtain ⟨g,o,ha,hg,hS,hcell⟩:=h3 (by omega);obtain ⟨cs,h1,h2,h3⟩:=hcell j x hx;exact ⟨g,o,cs,ha,hg,hS,h1,h2,h3,rfl,hc⟩
theorem RowR.step (h:RowR S k R w v xs) (hb:Sam S w w') (hS:∀ g,g<w.heap.size->S g->S' g) (hR:∀ cs x,x∈xs->R cs x->R' cs x):RowR S' k R' w' v xs:=by
 obtain ⟨a,c,hv,hc,h3⟩:=h;refine ⟨a,c,hv,hc,fun q=>?_⟩;obtain ⟨g,o,ha,hg,hs,hcell⟩:=h3 q;refine ⟨g,o,ha,hb.lt hg hs,hS g hg hs,fun j x hx=>?_⟩;obtain ⟨cs,h1,h2,h4⟩:=hcell j x hx;exact ⟨cs,h1,fun i u hu=>(hb.cell _ hg hs).trans (h2 i u hu),hR cs x (List.mem_of_getElem? hx) h4⟩
theorem RowR.none_ (S:Nat->Prop) (k:Nat) (R:List Value->α->Prop) (w:World):RowR S k R w (.slice none 0 0) []:=⟨none,0,rfl,Nat.le_refl _,fun q=>absurd q (by simp)⟩
theorem zoW {k:Nat}:∀ (css:List (List Value)),(∀ cs∈css,cs.length=k)->∀ (j:Nat) (cs:List Value),css[j]? = some cs->∀ i u,cs[i]? = some u->css.flatten[j * k+i]? = some u
 | [],_,_,_,h,_,_,_=>by cases h
 | c :: css,hl,0,cs,h,i,u,hu=>by
  cases h;rw[List.flatten_cons,Nat.zero_mul,Nat.zero_add,List.getElem?_append_left (List.getElem?_eq_some_iff.1 hu).1];exact hu
 | c :: css,hl,j+1,cs,h,i,u,hu=>by
  have hc:=hl c (by simp);rw[List.flatten_cons,List.getElem?_append_right (by rw[hc,Nat.succ_mul];omega),hc,show (j+1) * k+i - k=j * k+i by rw[Nat.succ_mul];omega];exact zoW css (fun x hx=>hl x (List.mem_cons_of_mem _ hx)) j cs (by simpa using h) i u hu
theorem zoX {k:Nat}:∀ (css:List (List Value)),(∀ cs∈css,cs.length=k)->css.flatten.length=css.length * k
 | [],_=>by simp
 | c :: css,hl=>by
  rw[List.flatten_cons,List.length_append,zoX css (fun x hx=>hl x (List.mem_cons_of_mem _ hx)),hl c (by simp),List.length_cons,Nat.succ_mul];omega
theorem RowR.own {base:Nat} {e:TypeId} (css:List (List Value)) (hk:∀ cs∈css,cs.length=k) (hl:css.length=xs.length) (h:w.ownsRow base e k v xs.length css.flatten) (hR:∀ (j:Nat) (cs:List Value) (x:α),css[j]? = some cs->xs[j]? = some x->R cs x) (hS:∀ g,v.ownBlock=some g->base<=g->S g):RowR S k R w v xs:=by
 obtain ⟨a,c,hv,hc,_,h3⟩:=za1 h;refine ⟨a,c,hv,hc,fun q=>?_⟩;obtain ⟨g,ha,hb,hg,hcell⟩:=h3 q;refine ⟨g,0,ha,hg,hS g (by rw[hv,ha];rfl) hb,fun j x hx=>?_⟩;have hj:=(List.getElem?_eq_some_iff.1 hx).1;have hcs:css[j]? = some (css[j]'(by omega)):=List.getElem?_eq_getElem (by omega);refine ⟨css[j]'(by omega),hk _ (List.getElem_mem _),fun i u hu=>?_,hR j _ x hcs hx⟩;rw[Nat.zero_add];exact hcell _ u (zoW css hk j _ hcs i u hu)
end
theorem Strs.sam {S:Nat->Prop} {w w':World} {v:Value} {xs:List Bs} (h:Strs w v xs) (hi:InB S v xs.length) (k:Sam S w w'):Strs w' v xs:=by
 obtain ⟨a,c,hv,hc,h3⟩:=h;refine ⟨a,c,hv,hc,fun q=>?_⟩;obtain ⟨g,o,ha,hg,hcell⟩:=h3 q;have hs:S g:=hi q g (by rw[hv,ha];rfl);exact ⟨g,o,ha,k.lt hg hs,fun j x hx=>(k.cell _ hg hs).trans (hcell j x hx)⟩
theorem Strs.onlS {S T:Nat->Prop} {w w':World} {v:Value} {xs:List Bs} (h:Strs w v xs) (hi:InB S v xs.length) (k:Only T w w') (hs:∀ g,g<w.heap.size->S g->¬ T g):Strs w' v xs:=h.sam hi (Sam.only k hs)
theorem Strs.ltB {w:World} {v:Value} {xs:List Bs} (h:Strs w v xs):InB (fun g=>g<w.heap.size) v xs.length:=fun q g hg=>by
 obtain ⟨a,c,hv,hc,h3⟩:=h;obtain ⟨g',o,ha,hgg,_⟩:=h3 q;rw[hv,ha] at hg;have:g'=g:=(by simpa [Value.ownBlock] using hg);omega
theorem Prs.sam {S:Nat->Prop} {w w':World} {v:Value} {xs:List Pr} (h:Prs w v xs) (hi:InB S v xs.length) (k:Sam S w w'):Prs w' v xs:=by
 obtain ⟨a,c,hv,hc,h3⟩:=h;refine ⟨a,c,hv,hc,fun q=>?_⟩;obtain ⟨g,o,ha,hg,hcell⟩:=h3 q;have hs:S g:=hi q g (by rw[hv,ha];rfl);refine ⟨g,o,ha,k.lt hg hs,fun j x hx=>?_⟩;rw[k.cell _ hg hs,k.cell _ hg hs];exact hcell j x hx
theorem Prs.onlS {S T:Nat->Prop} {w w':World} {v:Value} {xs:List Pr} (h:Prs w v xs) (hi:InB S v xs.length) (k:Only T w w') (hs:∀ g,g<w.heap.size->S g->¬ T g):Prs w' v xs:=h.sam hi (Sam.only k hs)
theorem Prs.ltB {w:World} {v:Value} {xs:List Pr} (h:Prs w v xs):InB (fun g=>g<w.heap.size) v xs.length:=fun q g hg=>by
 obtain ⟨a,c,hv,hc,h3⟩:=h;obtain ⟨g',o,ha,hgg,_⟩:=h3 q;rw[hv,ha] at hg;have:g'=g:=(by simpa [Value.ownBlock] using hg);omega
def CitW (cs:List Value) (c:Cit):Prop:=cs=[.string (bs c.key),.string (bs c.pre),.string (bs c.suf),.bool c.bare]
abbrev Cits (S:Nat->Prop):World->Value->List Cit->Prop:=RowR S 4 CitW
theorem Cits.sam {S S':Nat->Prop} {w w':World} {v:Value} {xs:List Cit} (h:Cits S w v xs) (k:Sam S w w') (hS:∀ g,g<w.heap.size->S g->S' g):Cits S' w' v xs:=h.step k hS (fun _ _ _ h=>h)
def zEk (x:Inl) (vC vP vA vT vK:Value):List Value:=[.int .i64 x.kind,.string (bs x.text),.string (bs x.dest),.string (bs x.title),.string (bs x.id),vC,vP,vA,vT,vK]
def InlW (S:Nat->Prop) (L:World->Value->List Inl->Prop) (w:World) (cs:List Value) (x:Inl):Prop :=
 ∃ vC vP vA vT vK,cs=zEk x vC vP vA vT vK/\(Strs w vC x.cls/\InB S vC x.cls.length)/\(Prs w vP x.prs/\InB S vP x.prs.length)/\(Strs w vA x.args/\InB S vA x.args.length)/\Cits S w vT x.cits/\L w vK x.kids
def Lns (S:Nat->Prop):Nat->World->Value->List Inl->Prop
 | 0,w,v,xs=>xs=[]/\RowR S 10 (fun _ _=>False) w v xs
 | n+1,w,v,xs=>RowR S 10 (InlW S (Lns S n) w) w v xs
theorem InlW.sam {S S':Nat->Prop} {L L':World->Value->List Inl->Prop} {w w':World} {cs:List Value} {x:Inl} (h:InlW S L w cs x) (k:Sam S w w') (hS:∀ g,g<w.heap.size->S g->S' g) (hL:∀ v,L w v x.kids->L' w' v x.kids):InlW S' L' w' cs x:=by
 obtain ⟨vC,vP,vA,vT,vK,rfl,⟨c1,c2⟩,⟨p1,p2⟩,⟨a1,a2⟩,t,kk⟩:=h;exact ⟨vC,vP,vA,vT,vK,rfl,⟨c1.sam c2 k,c2.mono fun g hg q=>hS g (c1.ltB q g hg)⟩,⟨p1.sam p2 k,p2.mono fun g hg q=>hS g (p1.ltB q g hg)⟩,⟨a1.sam a2 k,a2.mono fun g hg q=>hS g (a1.ltB q g hg)⟩,t.sam k hS,hL vK kk⟩
theorem Lns.sam {S S':Nat->Prop}:∀ {n:Nat} {w w':World} {v:Value} {xs:List Inl},Lns S n w v xs->Sam S w w'->(∀ g,g<w.heap.size->S g->S' g)->Lns S' n w' v xs
 | 0,_,_,_,_,h,k,hS=>⟨h.1,RowR.step h.2 k hS (fun _ _ _ h=>h)⟩
 | n+1,_,_,_,_,h,k,hS=>RowR.step (show RowR S 10 _ _ _ _ from h) k hS (fun _ _ _ h=>h.sam k hS (fun _ h=>Lns.sam h k hS))
theorem Lns.kept {S:Nat->Prop} {n:Nat} {w w':World} {v:Value} {xs:List Inl} (h:Lns S n w v xs) (k:Kept w w'):Lns S n w' v xs:=h.sam (Sam.kept k) (fun _ _ q=>q)
theorem Lns.mono {S S':Nat->Prop} {n:Nat} {w:World} {v:Value} {xs:List Inl} (h:Lns S n w v xs) (hS:∀ g,g<w.heap.size->S g->S' g):Lns S' n w v xs:=h.sam (fun _ _ _=>rfl) hS
theorem Lns.form {S:Nat->Prop} {n:Nat} {w:World} {v:Value} {xs:List Inl} (h:Lns S n w v xs):∃ a c,v=.slice a xs.length c/\xs.length<=c:=by
 cases n with
 | zero=>exact RowR.form h.2
 | succ n=>exact RowR.form (show RowR S 10 _ _ _ _ from h)
theorem Lns.none_ (S:Nat->Prop) (n:Nat) (w:World):Lns S n w (.slice none 0 0) []:=by
 cases n with
 | zero=>exact ⟨rfl,RowR.none_ _ _ _ _⟩
 | succ n=>exact (RowR.none_ S 10 _ w:RowR S 10 _ w _ _)
theorem InlW.up {S:Nat->Prop} {L L':World->Value->List Inl->Prop} {w:World} {cs:List Value} {x:Inl} (h:InlW S L w cs x) (hL:∀ v,L w v x.kids->L' w v x.kids):InlW S L' w cs x:=h.sam (fun _ _ _=>rfl) (fun _ _ q=>q) hL
theorem Lns.up {S:Nat->Prop}:∀ {n:Nat} {w:World} {v:Value} {xs:List Inl},Lns S n w v xs->Lns S (n+1) w v xs
 | 0,w,v,xs,h=>by
  obtain ⟨rfl,h⟩:=h;exact RowR.step (S':=S) (R':=InlW S (Lns S 0) w) h (fun _ _ _=>rfl) (fun _ _ q=>q) (fun _ _ _ h=>h.elim)
 | n+1,w,v,xs,h=>RowR.step (show RowR S 10 _ _ _ _ from h) (fun _ _ _=>rfl) (fun _ _ q=>q) (fun _ _ _ h=>h.up (fun _ h=>Lns.up h))
theorem Lns.ups {S:Nat->Prop} {n m:Nat} {w:World} {v:Value} {xs:List Inl} (h:Lns S n w v xs) (k:n<=m):Lns S m w v xs:=by
 induction k with
 | refl=>exact h
 | step _ ih=>exact ih.up
def zFf (x:Blo) (vC vP vL vK:Value):List Value:=[.int .i64 x.kind,.int .i64 x.level,.string (bs x.info),.string (bs x.text),.string (bs x.dest),.string (bs x.title),.string (bs x.id),vC,vP,vL,vK]
def BloW (S:Nat->Prop) (m:Nat) (L:World->Value->List Blo->Prop) (w:World) (cs:List Value) (x:Blo):Prop :=
 ∃ vC vP vL vK,cs=zFf x vC vP vL vK/\(Strs w vC x.cls/\InB S vC x.cls.length)/\(Prs w vP x.prs/\InB S vP x.prs.length)/\Lns S m w vL x.line/\L w vK x.kids
def Bls (S:Nat->Prop) (m:Nat):Nat->World->Value->List Blo->Prop
 | 0,w,v,xs=>xs=[]/\RowR S 11 (fun _ _=>False) w v xs
 | n+1,w,v,xs=>RowR S 11 (BloW S m (Bls S m n) w) w v xs
theorem BloW.sam {S S':Nat->Prop} {m:Nat} {L L':World->Value->List Blo->Prop} {w w':World} {cs:List Value} {x:Blo} (h:BloW S m L w cs x) (k:Sam S w w') (hS:∀ g,g<w.heap.size->S g->S' g) (hL:∀ v,L w v x.kids->L' w' v x.kids):BloW S' m L' w' cs x:=by
 obtain ⟨vC,vP,vL,vK,rfl,⟨c1,c2⟩,⟨p1,p2⟩,l,kk⟩:=h;exact ⟨vC,vP,vL,vK,rfl,⟨c1.sam c2 k,c2.mono fun g hg q=>hS g (c1.ltB q g hg)⟩,⟨p1.sam p2 k,p2.mono fun g hg q=>hS g (p1.ltB q g hg)⟩,l.sam k hS,hL vK kk⟩
theorem Bls.sam {S S':Nat->Prop} {m:Nat}:∀ {n:Nat} {w w':World} {v:Value} {xs:List Blo},Bls S m n w v xs->Sam S w w'->(∀ g,g<w.heap.size->S g->S' g)->Bls S' m n w' v xs
 | 0,_,_,_,_,h,k,hS=>⟨h.1,RowR.step h.2 k hS (fun _ _ _ h=>h)⟩
 | n+1,_,_,_,_,h,k,hS=>RowR.step (show RowR S 11 _ _ _ _ from h) k hS (fun _ _ _ h=>h.sam k hS (fun _ h=>Bls.sam h k hS))
theorem Bls.kept {S:Nat->Prop} {m n:Nat} {w w':World} {v:Value} {xs:List Blo} (h:Bls S m n w v xs) (k:Kept w w'):Bls S m n w' v xs:=h.sam (Sam.kept k) (fun _ _ q=>q)
theorem Bls.mono {S S':Nat->Prop} {m n:Nat} {w:World} {v:Value} {xs:List Blo} (h:Bls S m n w v xs) (hS:∀ g,g<w.heap.size->S g->S' g):Bls S' m n w v xs:=h.sam (fun _ _ _=>rfl) hS
theorem Bls.form {S:Nat->Prop} {m n:Nat} {w:World} {v:Value} {xs:List Blo} (h:Bls S m n w v xs):∃ a c,v=.slice a xs.length c/\xs.length<=c:=by
 cases n with
 | zero=>exact RowR.form h.2
 | succ n=>exact RowR.form (show RowR S 11 _ _ _ _ from h)
theorem Bls.none_ (S:Nat->Prop) (m n:Nat) (w:World):Bls S m n w (.slice none 0 0) []:=by
 cases n with
 | zero=>exact ⟨rfl,RowR.none_ _ _ _ _⟩
 | succ n=>exact (RowR.none_ S 11 _ w:RowR S 11 _ w _ _)
end Go.Proofs.YtmcoomlkbgiboaaGreatDoor
