/- Field and Year of package bib and of its reference. Conditions: lengths. -/
import Derived.Test.YtmcoomlkbgiboaaGreatDoorW08
import Derived.Test.YtmcoomlkbgiboaaGreatDoorW05
import Derived.Test.YtmcoomlkbgiboaaGreatDoorW04
import Derived.Test.YtmcoomlkbgiboaaGreatDoorW07
import Derived.Test.YtmcoomlkbgiboaaGreatDoorW09
import Derived.Deep.AppendLies
import Derived.Deep.RegionHeld3
set_option linter.all false
set_option maxRecDepth 100000
set_option maxHeartbeats 6400000
namespace Go.Proofs.YtmcoomlkbgiboaaGreatDoor
open Go.RowKit
abbrev zi0 (k t:Bs) (vA vE vF:Value):Value:=.agg #[.string (bs k),.string (bs t),vA,vE,vF]
theorem zlG (ps:List Pr) (k:Bs) (h:∀ q∈ps,(q.1 == k)=false):zbC ps k=none:=by
 unfold zbC;rw[List.find?_eq_none.2 (fun q hq=>by simp [h q hq])];rfl
theorem zp0 (ps:List Pr) (k:Bs) (n:Nat) (q:Pr) (hq:ps[n]? = some q) (h:∀ x∈ps.take n,(x.1 == k)=false) (he:(q.1 == k)=true):zbC ps k=some q.2:=by
 unfold zbC;obtain ⟨hn,rfl⟩:=List.getElem?_eq_some_iff.1 hq;have e:ps=ps.take n ++ ps[n] :: ps.drop (n+1):=by
  rw[<- List.drop_eq_getElem_cons hn,List.take_append_drop]
 conv=>lhs;rw[e]
 rw[List.find?_append,List.find?_eq_none.2 (fun q hq=>by simp [h q hq]),List.find?_cons_of_pos (by simpa using he)];rfl
def FieldPost (o:Option Bs) (w:World) (e:Ending) (w':World):Prop:=e=.returned (.tuple #[.string (bs (o.getD [])),.bool o.isSome])/\Kept w w'
theorem zlH (sk st:Bs) (vA vE vF:Value) (ps:List Pr) (k:Bs) (w:World) (hv:Prs w vF ps) (hN:ps.length<=1100000) :
  Calls Tryz.prog 35 #[zi0 sk st vA vE vF,.string (bs k)] w (FieldPost (zbC ps k) w):=by
 have HV:=Hd hv;have HA:=Hd (zp0 ps k);have HNO:=Hd (zlG ps k);obtain ⟨o,HO⟩:∃ o,Hid (zbC ps k=o):=⟨_,rfl⟩;rw[HO.out] at HA HNO ⊢;obtain ⟨a,c,rfl,hc,h3⟩:=hv;clear h3;unfold FieldPost;go_enter Tryz.func35,Tryz.ntmps35;go_wp2_with fail;simp only[zd4];go_loopw [11] (fun i wr=>∃ n:Nat,n<=ps.length/\i=.int .i64 n/\Hid (∀ x∈ps.take n,(x.1 == k)=false)/\Kept w wr) (fun i _=>ps.length - (intOf i).toNat)
 case atStart=>exact ⟨0,Nat.zero_le _,rfl,fun x h=>by simp at h,zaA _ _⟩
 case round =>
  obtain ⟨n,hn,rfl,HN,hkr⟩:=hrel;by_cases hlt:n<ps.length
  ·obtain ⟨q,hx⟩:∃ x,ps[n]? = some x:=⟨_,List.getElem?_eq_getElem hlt⟩;obtain ⟨a',c',hv',hc',h3⟩:=HV.out.kept hkr;obtain ⟨rfl,hdead,rfl⟩:=Value.slice.inj hv';clear hdead;obtain ⟨g,o2,rfl,hg,hcc⟩:=h3 (by omega);obtain ⟨c0,c1⟩:=hcc n q hx;have HR:=Hd hkr;cases hxk:(q.1 == k)
   ·have HS:Hid (∀ x∈ps.take (n+1),(x.1 == k)=false):=by
     intro x hxm;obtain ⟨hk',rfl⟩:=List.getElem?_eq_some_iff.1 hx;rw[List.take_succ_eq_append_getElem hk'] at hxm;rcases List.mem_append.1 hxm with h|h
     ·exact HN.out x h
     ·simp at h;subst h;exact hxk
    clear hkr hcc h3 hv' hc' hx HN;obtain ⟨x,y⟩:=q;simp only at c0 c1 hxk;go_wp2_with fail;go_roundw
    case rel=>exact ⟨n+1,by omega,by go_num,HS.out,HR.out.trans (zaA _ _)⟩
    case measure=>simp [intOf];omega
   ·have HF:=Hd (HA.out n q hx HN.out hxk);clear hkr hcc h3 hv' hc' hx HN;obtain ⟨x,y⟩:=q;simp only at c0 c1 hxk HF;go_wp2_with fail;go_ret2;exact ⟨by rw[HF.out];rfl,HR.out.trans (zaA _ _)⟩
  ·have HF:Hid (o=none):=HNO.out (fun q hq=>by
    have h:=HN.out;rw[List.take_of_length_le (by omega)] at h;exact h q hq)
   have HR:=Hd hkr;clear hkr HN;go_wp2_with fail;go_ret2;exact ⟨by rw[HF.out];rfl,HR.out⟩
theorem zvN (sk st:Bs) (vA vE vF:Value) (ps:List Pr) (k:Bs) (w:World) (hv:Prs w vF ps) (hN:ps.length<=1100000) :
  Calls Tryz.prog 104 #[zi0 sk st vA vE vF,.string (bs k)] w (FieldPost (zbC ps k) w):=by
 have HV:=Hd hv;have HA:=Hd (zp0 ps k);have HNO:=Hd (zlG ps k);obtain ⟨o,HO⟩:∃ o,Hid (zbC ps k=o):=⟨_,rfl⟩;rw[HO.out] at HA HNO ⊢;obtain ⟨a,c,rfl,hc,h3⟩:=hv;clear h3;unfold FieldPost;go_enter Tryz.func104,Tryz.ntmps104;go_wp2_with fail;simp only[zd4];go_loopw [11] (fun i wr=>∃ n:Nat,n<=ps.length/\i=.int .i64 n/\Hid (∀ x∈ps.take n,(x.1 == k)=false)/\Kept w wr) (fun i _=>ps.length - (intOf i).toNat)
 case atStart=>exact ⟨0,Nat.zero_le _,rfl,fun x h=>by simp at h,zaA _ _⟩
 case round =>
  obtain ⟨n,hn,rfl,HN,hkr⟩:=hrel;by_cases hlt:n<ps.length
  ·obtain ⟨q,hx⟩:∃ x,ps[n]? = some x:=⟨_,List.getElem?_eq_getElem hlt⟩;obtain ⟨a',c',hv',hc',h3⟩:=HV.out.kept hkr;obtain ⟨rfl,hdead,rfl⟩:=Value.slice.inj hv';clear hdead;obtain ⟨g,o2,rfl,hg,hcc⟩:=h3 (by omega);obtain ⟨c0,c1⟩:=hcc n q hx;have HR:=Hd hkr;cases hxk:(q.1 == k)
   ·have HS:Hid (∀ x∈ps.take (n+1),(x.1 == k)=false):=by
     intro x hxm;obtain ⟨hk',rfl⟩:=List.getElem?_eq_some_iff.1 hx;rw[List.take_succ_eq_append_getElem hk'] at hxm;rcases List.mem_append.1 hxm with h|h
     ·exact HN.out x h
     ·simp at h;subst h;exact hxk
    clear hkr hcc h3 hv' hc' hx HN;obtain ⟨x,y⟩:=q;simp only at c0 c1 hxk;go_wp2_with fail;go_roundw
    case rel=>exact ⟨n+1,by omega,by go_num,HS.out,HR.out.trans (zaA _ _)⟩
    case measure=>simp [intOf];omega
   ·have HF:=Hd (HA.out n q hx HN.out hxk);clear hkr hcc h3 hv' hc' hx HN;obtain ⟨x,y⟩:=q;simp only at c0 c1 hxk HF;go_wp2_with fail;go_ret2;exact ⟨by rw[HF.out];rfl,HR.out.trans (zaA _ _)⟩
  ·have HF:Hid (o=none):=HNO.out (fun q hq=>by
    have h:=HN.out;rw[List.take_of_length_le (by omega)] at h;exact h q hq)
   have HR:=Hd hkr;clear hkr HN;go_wp2_with fail;go_ret2;exact ⟨by rw[HF.out];rfl,HR.out⟩
theorem zoA (l:Bs) (i:Nat) (h:at8 l i<128):dec (bs l) i=(at8 l i,1):=by unfold dec;rw[zbI,if_pos h]
theorem zC6 (l:Bs) (i:Nat) (h:128<=at8 l i):128<=(dec (bs l) i).1:=by
 have m0:∀ k a b,¬ zaF (bs l) k a b<0->128<=a->a - 128<=zaF (bs l) k a b/\zaF (bs l) k a b<=b - 128:=by
  intro k a b q hl;obtain ⟨_,h1,h2,h3⟩:=zgM (s:=bs l) (i:=k) (l:=a) (h:=b) (by omega);omega
 have h:128<=zaC (bs l) i:=h;unfold dec;rw[if_neg (by omega)]
 split
 ·split
  ·have:=m0 (i+1) 128 191 (by omega) (by omega);simp only;omega
  ·simp only;omega
 split
 ·unfold zhA
  split
  ·simp only;omega
  ·rename_i q;simp only[not_or] at q;have d:128<=zfL (zaC (bs l) i)/\(zaC (bs l) i=224->zfL (zaC (bs l) i)=160):=(by unfold zfL;split <;> omega);have a:=m0 (i+1) (zfL (zaC (bs l) i)) (zcW (zaC (bs l) i)) q.1 d.1;have b:=m0 (i+2) 128 191 q.2 (by omega);simp only;omega
 split
 ·unfold zr5
  split
  ·simp only;omega
  ·rename_i q;simp only[not_or] at q;have d:128<=zfF (zaC (bs l) i)/\(zaC (bs l) i=240->zfF (zaC (bs l) i)=144):=(by unfold zfF;split <;> omega);have a:=m0 (i+1) (zfF (zaC (bs l) i)) (zcX (zaC (bs l) i)) q.1 d.1;have b:=m0 (i+2) 128 191 q.2.1 (by omega);have b2:=m0 (i+3) 128 191 q.2.2 (by omega);simp only;omega
 ·simp only;omega
def zw6 (b:UInt8):Bool:=decide (48<=b.toNat) && decide (b.toNat<=57)
def zp1 (v:Bs):Nat:=v.foldl (fun n b=>10 * n+(b.toNat - 48)) 0
def zeZ (v:Bs):Int:=if v.length<=4/\v.all zw6=true then zp1 v else 0
theorem zp2 (v:Bs) (b:UInt8):zp1 (v ++ [b])=10 * zp1 v+(b.toNat - 48):=by simp [zp1]
theorem zDp (v:Bs) (h:v.all zw6=true):zp1 v<10 ^ v.length:=by
 refine zkE (P:=fun v=>v.all zw6=true->zp1 v<10 ^ v.length) ?_ ?_ v h
 ·intro _;simp [zp1]
 ·intro l b ih h;rw[List.all_append,Bool.and_eq_true] at h;have h1:=ih h.1;have h2:b.toNat<=57:=(by have:=h.2;simp [zw6] at this;omega);rw[zp2,List.length_append,List.length_cons,List.length_nil,Nat.pow_succ];omega
theorem zx5 (l:Bs) (i:Nat) (h:i<l.length):zw6 l[i]=true↔48<=at8 l i/\at8 l i<=57:=by
 rw[za7 l i h];simp [zw6];omega
theorem zx6 (v:Bs) (i:Nat) (h:i<v.length) (hb:¬ (48<=at8 v i/\at8 v i<=57)):zeZ v=0:=by
 unfold zeZ;rw[if_neg];rintro ⟨_,q⟩;rw[List.all_eq_true] at q;exact hb ((zx5 v i h).1 (q _ (List.getElem_mem h)))
theorem zvO (v:Bs) (h4:v.length<=4) (h:v.all zw6=true):zeZ v=zp1 v:=by unfold zeZ;rw[if_pos ⟨h4,h⟩]
theorem zp3 (v:Bs) (h4:v.length<=4) (h:v.all zw6=true):zp1 v<=9999:=by
 have h1:=zDp v h;have h2:10 ^ v.length<=10 ^ 4:=Nat.pow_le_pow_right (by omega) h4;omega
theorem zBj (v:Bs) (k:Nat) (hk:k<v.length) (h:(v.take k).all zw6=true) (hd:48<=at8 v k/\at8 v k<=57):(v.take (k+1)).all zw6=true/\(zp1 (v.take (k+1)):Int)=10 * zp1 (v.take k)+(at8 v k - 48):=by
 rw[zdI v k hk,List.all_append,h];refine ⟨by simp [(zx5 v k hk).2 hd],?_⟩;rw[zp2,za7 v k hk];have:48<=v[k].toNat:=(by rw[za7 v k hk] at hd;omega);omega
theorem zh0 (w wr:World) (g:Nat) (v:Bs) (pos n:Nat) (hit:wr.heap[g]? = some (.stringIter (bs v) pos)) (hk:Kept w wr) (hg:w.heap.size<=g) :
  (wr.iterAt g (bs v) (pos+n)).heap[g]? = some (.stringIter (bs v) (pos+n))/\Kept w (wr.iterAt g (bs v) (pos+n))/\(wr.iterAt g (bs v) (pos+n)).iterPos g=pos+n/\wr.iterPos g=pos:=by
 have h1:=Lib.iterAt_heap wr g (bs v) pos (pos+n) hit;exact ⟨h1,Lib.below_iterAt hk hg (bs v) _,by simp [World.iterPos,h1],by simp [World.iterPos,hit]⟩
def zBk (b:UInt8):Bool:=decide (97<=b.toNat/\b.toNat<=122) || decide (65<=b.toNat/\b.toNat<=90)
def nmB (b:UInt8):Bool:=zBk b || zw6 b || b == 45 || b == 95 || b == 46 || b == 58
def zc0 (l:Bs):Bool:=decide (l.length<=60) && (match l with|[]=>false|b :: _=>zBk b) && l.all nmB
def zrW (c:Int):Prop:=97<=c/\c<=122\/65<=c/\c<=90
def zh1 (c:Int):Prop:=48<=c/\c<=57\/c=45\/c=95\/c=46\/c=58
def zEv (c:Int):Prop:=c<45\/c=47\/59<=c/\c<=64\/91<=c/\c<=94\/c=96\/122<c
theorem cls (c:Int):zrW c\/zh1 c\/zEv c:=by unfold zrW zh1 zEv;omega
theorem ztP (l:Bs) (i:Nat) (h:i<l.length):zBk l[i]=true↔zrW (at8 l i):=by
 rw[za7 l i h];unfold zrW;simp [zBk];omega
theorem zBl (l:Bs) (i:Nat) (h:i<l.length):nmB l[i]=true↔zrW (at8 l i)\/zh1 (at8 l i):=by
 have e:=ztP l i h;have d:=zx5 l i h;have q:∀ n:Nat,n<256->((l[i] == UInt8.ofNat n)=true↔at8 l i=n):=by
  intro n hn;constructor
  ·intro q;rw[za7 l i h];exact (zcZ _ n hn).2 (by simpa using q)
  ·intro q;rw[za7 l i h] at q;simpa using (zcZ _ n hn).1 q
 have q1:=q 45 (by omega);have q2:=q 95 (by omega);have q3:=q 46 (by omega);have q4:=q 58 (by omega);unfold nmB;simp only[Bool.or_eq_true,e,d];unfold zh1;constructor
 ·rintro (((((h|h)|h)|h)|h)|h)
  ·exact .inl h
  ·exact .inr (.inl h)
  ·exact .inr (.inr (.inl (by simpa using q1.1 h)))
  ·exact .inr (.inr (.inr (.inl (by simpa using q2.1 h))))
  ·exact .inr (.inr (.inr (.inr (.inl (by simpa using q3.1 h)))))
  ·exact .inr (.inr (.inr (.inr (.inr (by simpa using q4.1 h)))))
 ·rintro (h|h|h|h|h|h)
  ·exact .inl (.inl (.inl (.inl (.inl h))))
  ·exact .inl (.inl (.inl (.inl (.inr h))))
  ·exact .inl (.inl (.inl (.inr (q1.2 (by simpa using h)))))
  ·exact .inl (.inl (.inr (q2.2 (by simpa using h))))
  ·exact .inl (.inr (q3.2 (by simpa using h)))
  ·exact .inr (q4.2 (by simpa using h))
def NameSt (l:Bs) (k:Nat):Prop:=(l.take k).all nmB=true/\(0<k->∀ h:0<l.length,zBk l[0]=true)
theorem NameSt.start (l:Bs):NameSt l 0:=⟨rfl,fun h=>by omega⟩
theorem NameSt.letter {l:Bs} {k:Nat} (h:NameSt l k) (hk:k<l.length) (hc:zrW (at8 l k)):NameSt l (k+1):=by
 refine ⟨?_,fun _ h0=>?_⟩
 ·rw[zdI l k hk,List.all_append,h.1];simp [(zBl l k hk).2 (.inl hc)]
 ·by_cases q:k=0
  ·subst q;exact (ztP l 0 hk).2 hc
  ·exact h.2 (by omega) h0
theorem NameSt.other {l:Bs} {k:Nat} (h:NameSt l k) (hk:k<l.length) (h0:0<k) (hc:zh1 (at8 l k)):NameSt l (k+1):=by
 refine ⟨?_,fun _ h1=>h.2 h0 h1⟩;rw[zdI l k hk,List.all_append,h.1];simp [(zBl l k hk).2 (.inr hc)]
theorem ze0 (l:Bs) (h:0<l.length):zc0 l=(decide (l.length<=60) && zBk l[0] && l.all nmB):=by
 cases l with
 | nil=>simp at h
 | cons b r=>rfl
theorem NameSt.bad {l:Bs} {k:Nat} (hk:k<l.length) (hc:¬ (zrW (at8 l k)\/zh1 (at8 l k))):zc0 l=false:=by
 rw[ze0 l (by omega)];have:l.all nmB=false:=by
  rw[List.all_eq_false];exact ⟨l[k],List.getElem_mem hk,fun q=>hc ((zBl l k hk).1 q)⟩
 rw[this];simp
theorem NameSt.first {l:Bs} (hk:0<l.length) (hc:¬ zrW (at8 l 0)):zc0 l=false:=by
 rw[ze0 l hk];have:zBk l[0]=false:=by
  cases q:zBk l[0]
  ·rfl
  ·exact absurd ((ztP l 0 hk).1 q) hc
 rw[this];simp
theorem NameSt.done {l:Bs} (h:NameSt l l.length) (h60:l.length<=60):zc0 l = !l.isEmpty:=by
 cases l with
 | nil=>rfl
 | cons b r =>
  rw[ze0 _ (by simp)];have h1:=h.1;rw[List.take_of_length_le (Nat.le_refl _)] at h1;rw[h1,h.2 (by simp) (by simp)];simp at h60;simp;omega
theorem zDq (l:Bs) (i:Nat) (hi:i<l.length) (h:zrW (at8 l i)\/zh1 (at8 l i)):dec (bs l) i=(at8 l i,1):=zoA l i (by unfold zrW zh1 at h;omega)
theorem zDr (l:Bs) (i:Nat) (h:¬ (zrW (at8 l i)\/zh1 (at8 l i))):zEv (dec (bs l) i).1:=by
 by_cases q:at8 l i<128
 ·rw[zoA l i q];rcases cls (at8 l i) with h1|h1|h1
  ·exact absurd (.inl h1) h
  ·exact absurd (.inr h1) h
  ·exact h1
 ·have:=zC6 l i (by omega);unfold zEv;omega
theorem zi1 (l:Bs) (w:World) (hl:l.length<=1100000):Calls Tryz.prog 125 #[.string (bs l)] w fun e w'=>e=.returned (.bool (zc0 l))/\Kept w w':=by
 by_cases h60:l.length<=60
 ·go_enter Tryz.func125,Tryz.ntmps125;go_wp2_with fail;go_loopw [2] (fun r wr=>∃ pos:Nat,pos<=l.length/\r=.bool false/\wr.heap[w.heap.size]? = some (.stringIter (bs l) pos)/\Kept w wr/\Hid (NameSt l pos)) (fun _ wr=>l.length - wr.iterPos w.heap.size)
  case atStart=>exact ⟨0,Nat.zero_le _,rfl,by have:=World.iter_heap w (bs l) 0;simpa using this,zaA _ _,NameSt.start l⟩
  case round =>
   obtain ⟨pos,hp,rfl,hit,hk,HA⟩:=hrel;by_cases hlt:pos<l.length
   ·have nx:=fun ty=>zcT (P:=Tryz.prog) wr w.heap.size (bs l) pos ty hit hlt;by_cases hc:zrW (at8 l pos)\/zh1 (at8 l pos)
    ·rw[zDq l pos hlt hc] at nx;simp only[show ((1:Int).toNat)=1 from rfl] at nx;obtain ⟨q1,q2,q3,q4⟩:=zh0 w wr w.heap.size l pos 1 hit hk (Nat.le_refl _);have HQ1:=Hd q1;have HQ2:=Hd q2;have HQ3:=Hd q3;have HQ4:=Hd q4;generalize wr.iterAt w.heap.size (bs l) (pos+1)=wq at *;clear q1 q2 q3 q4 hit hk;by_cases hcl:zrW (at8 l pos)
     ·have HN:=Hd (HA.out.letter hlt hcl);generalize at8 l pos=c at *;clear HA hc;unfold zrW at hcl;rcases hcl with ⟨g1,g2⟩|⟨g1,g2⟩
      all_goals
       go_wp2_with fail;go_roundw
       case rel=>exact ⟨pos+1,by omega,rfl,HQ1.out,HQ2.out,HN.out⟩
       case measure=>rw[HQ3.out,HQ4.out];omega
     ·have hcr:zh1 (at8 l pos):=(by rcases hc with h|h;exact absurd h hcl;exact h);by_cases hz:pos=0
      ·subst hz;have HZ:=Hd (NameSt.first hlt hcl);generalize at8 l 0=c at *;clear HA hc hcl;unfold zh1 at hcr;rcases hcr with ⟨g1,g2⟩|rfl|rfl|rfl|rfl
       all_goals
        go_wp2_with fail;go_ret;exact ⟨zaH HZ.out.symm,HQ2.out⟩
      ·have hz':((pos:Int) == 0)=false:=(by rw[beq_eq_false_iff_ne];omega);have HN:=Hd (HA.out.other hlt (by omega) hcr);generalize at8 l pos=c at *;clear HA hc hcl;unfold zh1 at hcr;rcases hcr with ⟨g1,g2⟩|rfl|rfl|rfl|rfl
       all_goals
        go_wp2_with fail;go_roundw
        case rel=>exact ⟨pos+1,by omega,rfl,HQ1.out,HQ2.out,HN.out⟩
        case measure=>rw[HQ3.out,HQ4.out];omega
    ·have HZ:=Hd (NameSt.bad hlt hc);have hbad:=zDr l pos hc;obtain ⟨q1,q2,q3,q4⟩:=zh0 w wr w.heap.size l pos (dec (bs l) pos).2.toNat hit hk (Nat.le_refl _);have HQ2:=Hd q2;generalize wr.iterAt w.heap.size (bs l) (pos+(dec (bs l) pos).2.toNat)=wq at *;generalize (dec (bs l) pos).1=c at *;clear hc HA q1 q2 q3 q4 hit hk;unfold zEv at hbad;have hz:((pos:Int) == 0)=true\/((pos:Int) == 0)=false:=(by cases ((pos:Int) == 0) <;> simp);rcases hz with hz|hz <;> rcases hbad with g|rfl|⟨g1,g2⟩|⟨g1,g2⟩|rfl|g
     all_goals
      go_wp2_with fail;go_ret;exact ⟨zaH HZ.out.symm,HQ2.out⟩
   ·have nx:=fun ty=>zbR (P:=Tryz.prog) wr w.heap.size (bs l) pos ty hit (by simpa using hlt);obtain rfl:pos=l.length:=(by omega);have HZ:=Hd (HA.out.done h60);have HR:=Hd hk;clear hk HA hit;by_cases he:l=[]
    ·subst he;go_wp2_with fail;go_ret;exact ⟨zaH (by rw[HZ.out];rfl),HR.out⟩
    ·have hee:l.isEmpty=false:=(by simpa using he);go_wp2_with fail;go_ret;exact ⟨zaH (by rw[HZ.out,hee];first|rfl|simp [hee]),HR.out⟩
 ·have HZ:Hid (zc0 l=false):=(by show _=_;unfold zc0;rw[decide_eq_false h60];rfl);go_enter Tryz.func125,Tryz.ntmps125;go_wp2_with fail;go_ret;exact ⟨zaH HZ.out.symm,Kept.refl _⟩
def zeK (ps:List P4):List Value:=ps.flatMap fun q=>[.string (bs q.1),.string (bs q.2.1),.string (bs q.2.2.1),.string (bs q.2.2.2)]
theorem zBm (ps:List P4) (j:Nat) (q:P4) (h:ps[j]? = some q):(zeK ps)[j * 4]? = some (.string (bs q.1))/\(zeK ps)[j * 4+1]? = some (.string (bs q.2.1))/\(zeK ps)[j * 4+2]? = some (.string (bs q.2.2.1))/\(zeK ps)[j * 4+3]? = some (.string (bs q.2.2.2)):=by
 induction ps generalizing j with
 | nil=>cases h
 | cons p ps ih =>
  have e:zeK (p :: ps)=[.string (bs p.1),.string (bs p.2.1),.string (bs p.2.2.1),.string (bs p.2.2.2)] ++ zeK ps:=(by simp [zeK]);rw[e];cases j with
  | zero=>cases h;exact ⟨rfl,rfl,rfl,rfl⟩
  | succ j =>
   have:=ih j (by simpa using h);rw[List.getElem?_append_right (by simp;omega),List.getElem?_append_right (by simp;omega),List.getElem?_append_right (by simp;omega),List.getElem?_append_right (by simp;omega)];simp only[List.length_cons,List.length_nil];rw[show (j+1) * 4 - (0+1+1+1+1)=j * 4 from by omega,show (j+1) * 4+1 - (0+1+1+1+1)=j * 4+1 from by omega,show (j+1) * 4+2 - (0+1+1+1+1)=j * 4+2 from by omega,show (j+1) * 4+3 - (0+1+1+1+1)=j * 4+3 from by omega];exact this
theorem Perss.own {w:World} {base:Nat} {e:TypeId} {v:Value} {ps:List P4} (h:w.ownsRow base e 4 v ps.length (zeK ps)):Perss w v ps:=by
 obtain ⟨a,c,hv,hc,_,h3⟩:=za1 h;refine ⟨a,c,hv,hc,fun q=>?_⟩;obtain ⟨g,ha,_,hg,hcell⟩:=h3 q;refine ⟨g,0,ha,hg,fun j x hx=>?_⟩;obtain ⟨c0,c1,c2,c3⟩:=zBm ps j x hx;simp only[Nat.zero_add];exact ⟨hcell _ _ c0,hcell _ _ c1,hcell _ _ c2,hcell _ _ c3⟩
theorem Tryz.infoPers:(Tryz.prog.info? 77).map (fun i=>(i.zero,i.size,i.bytes))=some (some (.agg #[.string ⟨#[]⟩,.string ⟨#[]⟩,.string ⟨#[]⟩,.string ⟨#[]⟩]),4,64):=by kernel_rfl
end Go.Proofs.YtmcoomlkbgiboaaGreatDoor
