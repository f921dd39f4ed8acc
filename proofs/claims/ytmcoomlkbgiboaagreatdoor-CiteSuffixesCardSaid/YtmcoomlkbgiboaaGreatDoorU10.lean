/- Year and isName of package bib; the reference's Year. Conditions: lengths. -/
import Derived.Test.YtmcoomlkbgiboaaGreatDoorU09
import Derived.Test.YtmcoomlkbgiboaaGreatDoorU07
import Derived.Test.YtmcoomlkbgiboaaGreatDoorU08
import Derived.Deep.AppendLies
import Derived.Deep.RegionHeld3
import Derived.Lib.SliceRun
set_option linter.all false
set_option maxRecDepth 100000
set_option maxHeartbeats 6400000
namespace Go.Proofs.YtmcoomlkbgiboaaGreatDoor
open Go.RowKit
theorem zoH (l:Bs) (i:Nat) (h:at8 l i<128):dec (bs l) i=(at8 l i,1):=by unfold dec;rw[zbG,if_pos h]
theorem zCR (l:Bs) (i:Nat) (h:128<=at8 l i):128<=(dec (bs l) i).1:=by
 have m0:∀ k a b,¬ zaI (bs l) k a b<0->128<=a->a - 128<=zaI (bs l) k a b/\zaI (bs l) k a b<=b - 128:=by
  intro k a b q hl;obtain ⟨_,h1,h2,h3⟩:=zgP (s:=bs l) (i:=k) (l:=a) (h:=b) (by omega);omega
 have h:128<=zaC (bs l) i:=h;unfold dec;rw[if_neg (by omega)]
 split
 ·split
  ·have:=m0 (i+1) 128 191 (by omega) (by omega);simp only;omega
  ·simp only;omega
 split
 ·unfold zhI
  split
  ·simp only;omega
  ·rename_i q;simp only[not_or] at q;have d:128<=zfO (zaC (bs l) i)/\(zaC (bs l) i=224->zfO (zaC (bs l) i)=160):=(by unfold zfO;split <;> omega);have a:=m0 (i+1) (zfO (zaC (bs l) i)) (zc3 (zaC (bs l) i)) q.1 d.1;have b:=m0 (i+2) 128 191 q.2 (by omega);simp only;omega
 split
 ·unfold zsC
  split
  ·simp only;omega
  ·rename_i q;simp only[not_or] at q;have d:128<=zfI (zaC (bs l) i)/\(zaC (bs l) i=240->zfI (zaC (bs l) i)=144):=(by unfold zfI;split <;> omega);have a:=m0 (i+1) (zfI (zaC (bs l) i)) (zc4 (zaC (bs l) i)) q.1 d.1;have b:=m0 (i+2) 128 191 q.2.1 (by omega);have b2:=m0 (i+3) 128 191 q.2.2 (by omega);simp only;omega
 ·simp only;omega
def zvC (b:UInt8):Bool:=decide (48<=b.toNat) && decide (b.toNat<=57)
def zkK (v:Bs):Nat:=v.foldl (fun n b=>10 * n+(b.toNat - 48)) 0
def zdW (v:Bs):Int:=if v.length<=4/\v.all zvC=true then zkK v else 0
theorem zqF (v:Bs) (b:UInt8):zkK (v ++ [b])=10 * zkK v+(b.toNat - 48):=by simp [zkK]
theorem zDd (v:Bs) (h:v.all zvC=true):zkK v<10 ^ v.length:=by
 refine zn7 (P:=fun v=>v.all zvC=true->zkK v<10 ^ v.length) ?_ ?_ v h
 ·intro _;simp [zkK]
 ·intro l b ih h;rw[List.all_append,Bool.and_eq_true] at h;have h1:=ih h.1;have h2:b.toNat<=57:=(by have:=h.2;simp [zvC] at this;omega);rw[zqF,List.length_append,List.length_cons,List.length_nil,Nat.pow_succ];omega
theorem zxZ (l:Bs) (i:Nat) (h:i<l.length):zvC l[i]=true↔48<=at8 l i/\at8 l i<=57:=by
 rw[zbI l i h];simp [zvC];omega
theorem zqG (v:Bs) (i:Nat) (h:i<v.length) (hb:¬ (48<=at8 v i/\at8 v i<=57)):zdW v=0:=by
 unfold zdW;rw[if_neg];rintro ⟨_,q⟩;rw[List.all_eq_true] at q;exact hb ((zxZ v i h).1 (q _ (List.getElem_mem h)))
theorem zi3 (v:Bs) (h4:v.length<=4) (h:v.all zvC=true):zdW v=zkK v:=by unfold zdW;rw[if_pos ⟨h4,h⟩]
theorem zlI (v:Bs) (h4:v.length<=4) (h:v.all zvC=true):zkK v<=9999:=by
 have h1:=zDd v h;have h2:10 ^ v.length<=10 ^ 4:=Nat.pow_le_pow_right (by omega) h4;omega
theorem ztP (v:Bs) (k:Nat) (hk:k<v.length) (h:(v.take k).all zvC=true) (hd:48<=at8 v k/\at8 v k<=57):(v.take (k+1)).all zvC=true/\(zkK (v.take (k+1)):Int)=10 * zkK (v.take k)+(at8 v k - 48):=by
 rw[zeF v k hk,List.all_append,h];refine ⟨by simp [(zxZ v k hk).2 hd],?_⟩;rw[zqF,zbI v k hk];have:48<=v[k].toNat:=(by rw[zbI v k hk] at hd;omega);omega
theorem zh3 (w wr:World) (g:Nat) (v:Bs) (pos n:Nat) (hit:wr.heap[g]? = some (.stringIter (bs v) pos)) (hk:Kept w wr) (hg:w.heap.size<=g) :
  (wr.iterAt g (bs v) (pos+n)).heap[g]? = some (.stringIter (bs v) (pos+n))/\Kept w (wr.iterAt g (bs v) (pos+n))/\(wr.iterAt g (bs v) (pos+n)).iterPos g=pos+n/\wr.iterPos g=pos:=by
 have h1:=Lib.iterAt_heap wr g (bs v) pos (pos+n) hit;exact ⟨h1,Lib.below_iterAt hk hg (bs v) _,by simp [World.iterPos,h1],by simp [World.iterPos,hit]⟩
def zCS (b:UInt8):Bool:=decide (97<=b.toNat/\b.toNat<=122) || decide (65<=b.toNat/\b.toNat<=90)
def nmB (b:UInt8):Bool:=zCS b || zvC b || b == 45 || b == 95 || b == 46 || b == 58
def zg7 (l:Bs):Bool:=decide (l.length<=60) && (match l with|[]=>false|b :: _=>zCS b) && l.all nmB
def ztQ (c:Int):Prop:=97<=c/\c<=122\/65<=c/\c<=90
def zi4 (c:Int):Prop:=48<=c/\c<=57\/c=45\/c=95\/c=46\/c=58
def zEr (c:Int):Prop:=c<45\/c=47\/59<=c/\c<=64\/91<=c/\c<=94\/c=96\/122<c
theorem cls (c:Int):ztQ c\/zi4 c\/zEr c:=by unfold ztQ zi4 zEr;omega
theorem zx0 (l:Bs) (i:Nat) (h:i<l.length):zCS l[i]=true↔ztQ (at8 l i):=by
 rw[zbI l i h];unfold ztQ;simp [zCS];omega
theorem zDe (l:Bs) (i:Nat) (h:i<l.length):nmB l[i]=true↔ztQ (at8 l i)\/zi4 (at8 l i):=by
 have e:=zx0 l i h;have d:=zxZ l i h;have q:∀ n:Nat,n<256->((l[i] == UInt8.ofNat n)=true↔at8 l i=n):=by
  intro n hn;constructor
  ·intro q;rw[zbI l i h];exact (zgB _ n hn).2 (by simpa using q)
  ·intro q;rw[zbI l i h] at q;simpa using (zgB _ n hn).1 q
 have q1:=q 45 (by omega);have q2:=q 95 (by omega);have q3:=q 46 (by omega);have q4:=q 58 (by omega);unfold nmB;simp only[Bool.or_eq_true,e,d];unfold zi4;constructor
 ·rintro (((((h|h)|h)|h)|h)|h)
  ·exact .inl h
  ·exact .inr (.inl h)
  ·exact .inr (.inr (.inl (by simpa using q1.1 h)))
  ·exact .inr (.inr (.inr (.inl (by simpa using q2.1 h))))
  ·exact .inr (.inr (.inr (.inr (.inl (by simpa using q3.1 h)))))
  ·exact .inr (.inr (.inr (.inr (.inr (by simpa using q4.1 h)))))
 ·rintro (h|h|h|h|h|h)
  ·exact .inl (.inl (.inl (.inl (.inl h))))
  ·exact .inl (.inl (.inl (.inl (.inr h))))
  ·exact .inl (.inl (.inl (.inr (q1.2 (by simpa using h)))))
  ·exact .inl (.inl (.inr (q2.2 (by simpa using h))))
  ·exact .inl (.inr (q3.2 (by simpa using h)))
  ·exact .inr (q4.2 (by simpa using h))
def NameSt (l:Bs) (k:Nat):Prop:=(l.take k).all nmB=true/\(0<k->∀ h:0<l.length,zCS l[0]=true)
theorem NameSt.start (l:Bs):NameSt l 0:=⟨rfl,fun h=>by omega⟩
theorem NameSt.letter {l:Bs} {k:Nat} (h:NameSt l k) (hk:k<l.length) (hc:ztQ (at8 l k)):NameSt l (k+1):=by
 refine ⟨?_,fun _ h0=>?_⟩
 ·rw[zeF l k hk,List.all_append,h.1];simp [(zDe l k hk).2 (.inl hc)]
 ·by_cases q:k=0
  ·subst q;exact (zx0 l 0 hk).2 hc
  ·exact h.2 (by omega) h0
theorem NameSt.other {l:Bs} {k:Nat} (h:NameSt l k) (hk:k<l.length) (h0:0<k) (hc:zi4 (at8 l k)):NameSt l (k+1):=by
 refine ⟨?_,fun _ h1=>h.2 h0 h1⟩;rw[zeF l k hk,List.all_append,h.1];simp [(zDe l k hk).2 (.inr hc)]
theorem zi5 (l:Bs) (h:0<l.length):zg7 l=(decide (l.length<=60) && zCS l[0] && l.all nmB):=by
 cases l with
 | nil=>simp at h
 | cons b r=>rfl
theorem NameSt.bad {l:Bs} {k:Nat} (hk:k<l.length) (hc:¬ (ztQ (at8 l k)\/zi4 (at8 l k))):zg7 l=false:=by
 rw[zi5 l (by omega)];have:l.all nmB=false:=by
  rw[List.all_eq_false];exact ⟨l[k],List.getElem_mem hk,fun q=>hc ((zDe l k hk).1 q)⟩
 rw[this];simp
theorem NameSt.first {l:Bs} (hk:0<l.length) (hc:¬ ztQ (at8 l 0)):zg7 l=false:=by
 rw[zi5 l hk];have:zCS l[0]=false:=by
  cases q:zCS l[0]
  ·rfl
  ·exact absurd ((zx0 l 0 hk).1 q) hc
 rw[this];simp
theorem NameSt.done {l:Bs} (h:NameSt l l.length) (h60:l.length<=60):zg7 l = !l.isEmpty:=by
 cases l with
 | nil=>rfl
 | cons b r =>
  rw[zi5 _ (by simp)];have h1:=h.1;rw[List.take_of_length_le (Nat.le_refl _)] at h1;rw[h1,h.2 (by simp) (by simp)];simp at h60;simp;omega
theorem zDf (l:Bs) (i:Nat) (hi:i<l.length) (h:ztQ (at8 l i)\/zi4 (at8 l i)):dec (bs l) i=(at8 l i,1):=zoH l i (by unfold ztQ zi4 at h;omega)
theorem zDg (l:Bs) (i:Nat) (h:¬ (ztQ (at8 l i)\/zi4 (at8 l i))):zEr (dec (bs l) i).1:=by
 by_cases q:at8 l i<128
 ·rw[zoH l i q];rcases cls (at8 l i) with h1|h1|h1
  ·exact absurd (.inl h1) h
  ·exact absurd (.inr h1) h
  ·exact h1
 ·have:=zCR l i (by omega);unfold zEr;omega
theorem zi6 (l:Bs) (w:World) (hl:l.length<=1100000):Calls Tryz.prog 125 #[.string (bs l)] w fun e w'=>e=.returned (.bool (zg7 l))/\Kept w w':=by
 by_cases h60:l.length<=60
 ·go_enter Tryz.func125,Tryz.ntmps125;go_wp2_with fail;go_loopw [2] (fun r wr=>∃ pos:Nat,pos<=l.length/\r=.bool false/\wr.heap[w.heap.size]? = some (.stringIter (bs l) pos)/\Kept w wr/\Hid (NameSt l pos)) (fun _ wr=>l.length - wr.iterPos w.heap.size)
  case atStart=>exact ⟨0,Nat.zero_le _,rfl,by have:=World.iter_heap w (bs l) 0;simpa using this,zaA _ _,NameSt.start l⟩
  case round =>
   obtain ⟨pos,hp,rfl,hit,hk,HA⟩:=hrel;by_cases hlt:pos<l.length
   ·have nx:=fun ty=>zc0 (P:=Tryz.prog) wr w.heap.size (bs l) pos ty hit hlt;by_cases hc:ztQ (at8 l pos)\/zi4 (at8 l pos)
    ·rw[zDf l pos hlt hc] at nx;simp only[show ((1:Int).toNat)=1 from rfl] at nx;obtain ⟨q1,q2,q3,q4⟩:=zh3 w wr w.heap.size l pos 1 hit hk (Nat.le_refl _);have HQ1:=Hd q1;have HQ2:=Hd q2;have HQ3:=Hd q3;have HQ4:=Hd q4;generalize wr.iterAt w.heap.size (bs l) (pos+1)=wq at *;clear q1 q2 q3 q4 hit hk;by_cases hcl:ztQ (at8 l pos)
     ·have HN:=Hd (HA.out.letter hlt hcl);generalize at8 l pos=c at *;clear HA hc;unfold ztQ at hcl;rcases hcl with ⟨g1,g2⟩|⟨g1,g2⟩
      all_goals
       go_wp2_with fail;go_roundw
       case rel=>exact ⟨pos+1,by omega,rfl,HQ1.out,HQ2.out,HN.out⟩
       case measure=>rw[HQ3.out,HQ4.out];omega
     ·have hcr:zi4 (at8 l pos):=(by rcases hc with h|h;exact absurd h hcl;exact h);by_cases hz:pos=0
      ·subst hz;have HZ:=Hd (NameSt.first hlt hcl);generalize at8 l 0=c at *;clear HA hc hcl;unfold zi4 at hcr;rcases hcr with ⟨g1,g2⟩|rfl|rfl|rfl|rfl
       all_goals
        go_wp2_with fail;go_ret;exact ⟨zaO HZ.out.symm,HQ2.out⟩
      ·have hz':((pos:Int) == 0)=false:=(by rw[beq_eq_false_iff_ne];omega);have HN:=Hd (HA.out.other hlt (by omega) hcr);generalize at8 l pos=c at *;clear HA hc hcl;unfold zi4 at hcr;rcases hcr with ⟨g1,g2⟩|rfl|rfl|rfl|rfl
       all_goals
        go_wp2_with fail;go_roundw
        case rel=>exact ⟨pos+1,by omega,rfl,HQ1.out,HQ2.out,HN.out⟩
        case measure=>rw[HQ3.out,HQ4.out];omega
    ·have HZ:=Hd (NameSt.bad hlt hc);have hbad:=zDg l pos hc;obtain ⟨q1,q2,q3,q4⟩:=zh3 w wr w.heap.size l pos (dec (bs l) pos).2.toNat hit hk (Nat.le_refl _);have HQ2:=Hd q2;generalize wr.iterAt w.heap.size (bs l) (pos+(dec (bs l) pos).2.toNat)=wq at *;generalize (dec (bs l) pos).1=c at *;clear hc HA q1 q2 q3 q4 hit hk;unfold zEr at hbad;have hz:((pos:Int) == 0)=true\/((pos:Int) == 0)=false:=(by cases ((pos:Int) == 0) <;> simp);rcases hz with hz|hz <;> rcases hbad with g|rfl|⟨g1,g2⟩|⟨g1,g2⟩|rfl|g
     all_goals
      go_wp2_with fail;go_ret;exact ⟨zaO HZ.out.symm,HQ2.out⟩
   ·have nx:=fun ty=>zbR (P:=Tryz.prog) wr w.heap.size (bs l) pos ty hit (by simpa using hlt);obtain rfl:pos=l.length:=(by omega);have HZ:=Hd (HA.out.done h60);have HR:=Hd hk;clear hk HA hit;by_cases he:l=[]
    ·subst he;go_wp2_with fail;go_ret;exact ⟨zaO (by rw[HZ.out];rfl),HR.out⟩
    ·have hee:l.isEmpty=false:=(by simpa using he);go_wp2_with fail;go_ret;exact ⟨zaO (by rw[HZ.out,hee];first|rfl|simp [hee]),HR.out⟩
 ·have HZ:Hid (zg7 l=false):=(by show _=_;unfold zg7;rw[decide_eq_false h60];rfl);go_enter Tryz.func125,Tryz.ntmps125;go_wp2_with fail;go_ret;exact ⟨zaO HZ.out.symm,Kept.refl _⟩
def zeQ (ps:List P4):List Value:=ps.flatMap fun q=>[.string (bs q.1),.string (bs q.2.1),.string (bs q.2.2.1),.string (bs q.2.2.2)]
theorem zBa (ps:List P4) (j:Nat) (q:P4) (h:ps[j]? = some q):(zeQ ps)[j * 4]? = some (.string (bs q.1))/\(zeQ ps)[j * 4+1]? = some (.string (bs q.2.1))/\(zeQ ps)[j * 4+2]? = some (.string (bs q.2.2.1))/\(zeQ ps)[j * 4+3]? = some (.string (bs q.2.2.2)):=by
 induction ps generalizing j with
 | nil=>cases h
 | cons p ps ih =>
  have e:zeQ (p :: ps)=[.string (bs p.1),.string (bs p.2.1),.string (bs p.2.2.1),.string (bs p.2.2.2)] ++ zeQ ps:=(by simp [zeQ]);rw[e];cases j with
  | zero=>cases h;exact ⟨rfl,rfl,rfl,rfl⟩
  | succ j =>
   have:=ih j (by simpa using h);rw[List.getElem?_append_right (by simp;omega),List.getElem?_append_right (by simp;omega),List.getElem?_append_right (by simp;omega),List.getElem?_append_right (by simp;omega)];simp only[List.length_cons,List.length_nil];rw[show (j+1) * 4 - (0+1+1+1+1)=j * 4 from by omega,show (j+1) * 4+1 - (0+1+1+1+1)=j * 4+1 from by omega,show (j+1) * 4+2 - (0+1+1+1+1)=j * 4+2 from by omega,show (j+1) * 4+3 - (0+1+1+1+1)=j * 4+3 from by omega];exact this
theorem Perss.own {w:World} {base:Nat} {e:TypeId} {v:Value} {ps:List P4} (h:w.ownsRow base e 4 v ps.length (zeQ ps)):Perss w v ps:=by
 obtain ⟨a,c,hv,hc,_,h3⟩:=za1 h;refine ⟨a,c,hv,hc,fun q=>?_⟩;obtain ⟨g,ha,_,hg,hcell⟩:=h3 q;refine ⟨g,0,ha,hg,fun j x hx=>?_⟩;obtain ⟨c0,c1,c2,c3⟩:=zBa ps j x hx;simp only[Nat.zero_add];exact ⟨hcell _ _ c0,hcell _ _ c1,hcell _ _ c2,hcell _ _ c3⟩
theorem Tryz.infoPers:(Tryz.prog.info? 77).map (fun i=>(i.zero,i.size,i.bytes))=some (some (.agg #[.string ⟨#[]⟩,.string ⟨#[]⟩,.string ⟨#[]⟩,.string ⟨#[]⟩]),4,64):=by kernel_rfl
theorem zvD (w:World) (g:Nat) (ps:List P4):∀ (o:Nat),(∀ j q,ps[j]? = some q->w.cell? ⟨g,o+j * 4,none⟩=some (.string (bs q.1))/\w.cell? ⟨g,o+j * 4+1,none⟩=some (.string (bs q.2.1))/\w.cell? ⟨g,o+j * 4+2,none⟩=some (.string (bs q.2.2.1))/\w.cell? ⟨g,o+j * 4+3,none⟩=some (.string (bs q.2.2.2))) ->
  ∀ j u,(zeQ ps)[j]? = some u->w.cell? ⟨g,o+j,none⟩=some u:=by
 induction ps with
 | nil=>intro o _ j u h;cases h
 | cons p ps ih =>
  intro o hc j u h;have e:zeQ (p :: ps)=.string (bs p.1) :: .string (bs p.2.1) :: .string (bs p.2.2.1) :: .string (bs p.2.2.2) :: zeQ ps:=(by simp [zeQ]);rw[e] at h;obtain ⟨c0,c1,c2,c3⟩:=hc 0 p rfl;simp only[Nat.zero_mul,Nat.add_zero] at c0 c1 c2 c3
  match j with
  | 0=>simp at h;subst h;exact c0
  | 1=>simp at h;subst h;exact c1
  | 2=>simp at h;subst h;exact c2
  | 3=>simp at h;subst h;exact c3
  | j+4 =>
   have:=ih (o+4) (fun i q hq=>by
    have h4:=hc (i+1) q (by simpa using hq);rw[show o+(i+1) * 4=o+4+i * 4 from by omega] at h4;exact h4) j u (by simpa using h)
   rw[show o+(j+4)=o+4+j from by omega];exact this
theorem zx1 (ps:List P4):(zeQ ps).length=ps.length * 4:=by
 induction ps with
 | nil=>rfl
 | cons p ps ih =>
    have e:zeQ (p :: ps)=.string (bs p.1) :: .string (bs p.2.1) :: .string (bs p.2.2.1) :: .string (bs p.2.2.2) :: zeQ ps:=(by simp [zeQ]);rw[e];simp only[List.length_cons,ih];omega
theorem zx2 (ps:List P4):∀ u∈zeQ ps,u.oneCell'=true:=by
 intro u hu;unfold zeQ at hu;rw[List.mem_flatMap] at hu;obtain ⟨q,_,hq⟩:=hu;simp at hq;rcases hq with rfl|rfl|rfl|rfl <;> rfl
theorem Perss.news {w:World} {ad:Addr} {n c:Nat} {ps:List P4} (h:Perss w (.slice (some ad) n c) ps):∀ j u,(zeQ ps)[j]? = some u->w.cell? (ad.add j)=some u:=by
 intro j u hu;obtain ⟨a,c',hv,_,h3⟩:=h;obtain ⟨rfl,_,_⟩:=Value.slice.inj hv;have hp:0<ps.length:=by
  cases ps with
  | nil=>cases hu
  | cons p ps=>simp
 obtain ⟨g,o,ha,_,hc⟩:=h3 hp;cases ha;rw[zxW];exact zvD w g ps o hc j u hu
theorem Perss.nil_ {w:World} {n c:Nat} {ps:List P4} (h:Perss w (.slice none n c) ps):ps=[]:=by
 obtain ⟨a,c',hv,_,h3⟩:=h;obtain ⟨rfl,_,_⟩:=Value.slice.inj hv;cases ps with
 | nil=>rfl
 | cons p ps =>
  obtain ⟨g,o,ha,_⟩:=h3 (by simp);cases ha
theorem Prs.nil_ {w:World} {n c:Nat} {ps:List Pr} (h:Prs w (.slice none n c) ps):ps=[]:=by
 obtain ⟨a,c',hv,_,h3⟩:=h;obtain ⟨rfl,_,_⟩:=Value.slice.inj hv;cases ps with
 | nil=>rfl
 | cons p ps =>
  obtain ⟨g,o,ha,_⟩:=h3 (by simp);cases ha
theorem Perss.none_ (w:World):Perss w (.slice none 0 0) []:=⟨none,0,rfl,Nat.le_refl _,fun q=>absurd q (by simp)⟩
def Fresh (B:Nat) (v:Value):Prop:=∀ g o n c,v=.slice (some ⟨g,o,none⟩) n c->0<n->B<=g
theorem Fresh.none_ (B:Nat) (n c:Nat):Fresh B (.slice none n c):=fun _ _ _ _ h=>by cases h
theorem Fresh.own {w:World} {base:Nat} {e:TypeId} {size:Nat} {v:Value} {n:Nat} {xs:List Value} (h:w.ownsRow base e size v n xs):Fresh base v:=by
 obtain ⟨a,c,rfl,_,_,h3⟩:=za1 h;intro g o n' c' he hn;obtain ⟨rfl,rfl,rfl⟩:=Value.slice.inj he;obtain ⟨g',e',hb,_⟩:=h3 hn;cases e';exact hb
theorem Perss.away {S:Nat->Prop} {w w':World} {B:Nat} {v:Value} {ps:List P4} (h:Perss w v ps) (hf:Fresh B v) (k:Only S w w') (hS:∀ i,S i->i<B):Perss w' v ps:=by
 obtain ⟨a,c,rfl,hc,h3⟩:=h;refine ⟨a,c,rfl,hc,fun q=>?_⟩;obtain ⟨g,o,rfl,hg,hcell⟩:=h3 q;have hb:=hf g o _ _ rfl q;have hn:¬ S g:=fun h=>(by have:=hS g h;omega);refine ⟨g,o,rfl,Nat.lt_of_lt_of_le hg k.size,fun j x hx=>?_⟩;rw[k.cell g _ hg hn,k.cell g _ hg hn,k.cell g _ hg hn,k.cell g _ hg hn];exact hcell j x hx
theorem Prs.away {S:Nat->Prop} {w w':World} {B:Nat} {v:Value} {ps:List Pr} (h:Prs w v ps) (hf:Fresh B v) (k:Only S w w') (hS:∀ i,S i->i<B):Prs w' v ps:=by
 obtain ⟨a,c,rfl,hc,h3⟩:=h;refine ⟨a,c,rfl,hc,fun q=>?_⟩;obtain ⟨g,o,rfl,hg,hcell⟩:=h3 q;have hb:=hf g o _ _ rfl q;have hn:¬ S g:=fun h=>(by have:=hS g h;omega);refine ⟨g,o,rfl,Nat.lt_of_lt_of_le hg k.size,fun j x hx=>?_⟩;rw[k.cell g _ hg hn,k.cell g _ hg hn];exact hcell j x hx
def CloneP (ps:List P4) (w:World) (e:Ending) (w':World):Prop:=∃ v',e=.returned v'/\Perss w' v' ps/\Fresh w.heap.size v'/\Kept w w'
def CloneF (ps:List Pr) (w:World) (e:Ending) (w':World):Prop:=∃ v',e=.returned v'/\Prs w' v' ps/\Fresh w.heap.size v'/\Kept w w'
theorem zgR (v:Value) (ps:List P4) (w:World) (hv:Perss w v ps) (hN:ps.length<=1100000) :
  Calls Tryz.prog 98 #[v] w (CloneP ps w):=by
 obtain ⟨i0,hi,hz0,hz1,hz2⟩:=info_parts Tryz.infoPers;have qT:∀ (w:World) (a:Option Addr) (n c n' c':Nat),(binOp .eql 48 (.slice a n c) (.slice none n' c')).run Tryz.prog w=.ok (.bool a.isNone) w:=fun w a n c n' c'=>Lib.run_eql_slice_nil w _ _ a n c n' c' Tryz.underlying48;have HV:=Hd hv;obtain ⟨a,c,rfl,hc,h3⟩:=hv;clear h3;cases a with
 | none =>
  obtain rfl:ps=[]:=HV.out.nil_;go_enter Tryz.func98,Tryz.ntmps98;go_wp2_with fail;go_ret;exact ⟨_,rfl,Perss.none_ _,Fresh.none_ _ _ _,Kept.refl _⟩
 | some ad =>
  have HNEWS:=Hd ((HV.out.kept (zaA w (.cells #[] 77))).news);have hplen:=zx1 ps;have HONE:=Hd (zx2 ps);have HPO:Hid (∀ (w:World) (base:Nat) (e:TypeId) (v:Value) (n:Nat),n=ps.length->w.ownsRow base e 4 v n ([] ++ zeQ ps)->Perss w v ps):=by
   intro w base e v n hn h;subst hn;exact Perss.own (by simpa using h)
  go_enter Tryz.func98,Tryz.ntmps98;go_wp2_with (at_builtin;refine wpList_append_own _ rfl _ _ 48 rfl w.heap.size 77 i0 _ 4 64 Tryz.underlying48 hi hz0 hz1 hz2 rfl (by decide) _ 0 [] rfl (World.ownsRow_made w #[] 0 (Nat.le_refl _) (by unfold maxLen;omega) (by simp)) ad ps.length c (zeQ ps) rfl hplen HNEWS.out HONE.out ?_ ?_ ?_ ?_)
  ·unfold maxLen;omega
  ·omega
  ·simp
  intro v' w2 hown2 hgrow _;have HR:=Hd (HPO.out _ _ _ _ _ (by omega) hown2);have HK:=Hd ((zaA w (.cells #[] 77)).trans' (zaG (World.ownsRow_made (size:=4) w #[] 0 (Nat.le_refl _) (by unfold maxLen;omega) (by simp)) hgrow (by simp)));have HFR:=Hd (Fresh.own hown2);clear hown2 hgrow;go_wp2_with fail;go_ret;exact ⟨_,rfl,HR.out,HFR.out,HK.out⟩
theorem znD (v:Value) (ps:List Pr) (w:World) (hv:Prs w v ps) (hN:ps.length<=1100000) :
  Calls Tryz.prog 72 #[v] w (CloneF ps w):=by
 obtain ⟨i0,hi,hz0,hz1,hz2⟩:=info_parts Tryz.infoPair;have qT:∀ (w:World) (a:Option Addr) (n c n' c':Nat),(binOp .eql 22 (.slice a n c) (.slice none n' c')).run Tryz.prog w=.ok (.bool a.isNone) w:=fun w a n c n' c'=>Lib.run_eql_slice_nil w _ _ a n c n' c' Tryz.underlying22;have HV:=Hd hv;obtain ⟨a,c,rfl,hc,h3⟩:=hv;clear h3;cases a with
 | none =>
  obtain rfl:ps=[]:=HV.out.nil_;go_enter Tryz.func72,Tryz.ntmps72;go_wp2_with fail;go_ret;exact ⟨_,rfl,Prs.none_ _,Fresh.none_ _ _ _,Kept.refl _⟩
 | some ad =>
  have HNEWS:=Hd ((HV.out.kept (zaA w (.cells #[] 62))).news);have hplen:=zqC ps;have HONE:=Hd (zqD ps);have HPO:Hid (∀ (w:World) (base:Nat) (e:TypeId) (v:Value) (n:Nat),n=ps.length->w.ownsRow base e 2 v n ([] ++ zcV ps)->Prs w v ps):=by
   intro w base e v n hn h;subst hn;exact Prs.own (by simpa using h)
  go_enter Tryz.func72,Tryz.ntmps72;go_wp2_with (at_builtin;refine wpList_append_own _ rfl _ _ 22 rfl w.heap.size 62 i0 _ 2 32 Tryz.underlying22 hi hz0 hz1 hz2 rfl (by decide) _ 0 [] rfl (World.ownsRow_made w #[] 0 (Nat.le_refl _) (by unfold maxLen;omega) (by simp)) ad ps.length c (zcV ps) rfl hplen HNEWS.out HONE.out ?_ ?_ ?_ ?_)
  ·unfold maxLen;omega
  ·omega
  ·simp
  intro v' w2 hown2 hgrow _;have HR:=Hd (HPO.out _ _ _ _ _ (by omega) hown2);have HK:=Hd ((zaA w (.cells #[] 62)).trans' (zaG (World.ownsRow_made (size:=2) w #[] 0 (Nat.le_refl _) (by unfold maxLen;omega) (by simp)) hgrow (by simp)));have HFR:=Hd (Fresh.own hown2);clear hown2 hgrow;go_wp2_with fail;go_ret;exact ⟨_,rfl,HR.out,HFR.out,HK.out⟩
end Go.Proofs.YtmcoomlkbgiboaaGreatDoor
