/- Plain law of initials: what a walk over code points gathers is what the pieces' first code points make. No condition. -/
import Derived.Test.YtmcoomlkbgiboaaGreatDoorW07
import Derived.Test.YtmcoomlkbgiboaaGreatDoorW16
import Derived.Test.YtmcoomlkbgiboaaGreatDoorW06
import Derived.Test.YtmcoomlkbgiboaaGreatDoorW04
import Derived.Laws.Cover4
set_option linter.all false
set_option maxRecDepth 100000
set_option maxHeartbeats 6400000
namespace Go.Proofs.YtmcoomlkbgiboaaGreatDoor
open Go.RowKit
def zdM (x:Bs):Bs:=zn3 (dec (bs x) 0).1 ++ [46]
def ini:Bs->Bool->Bool->Bool->Bs
 | [],_,_,_=>[]
 | b :: r,bg,iw,sm =>
  if b=32 then ini r true false sm
  else if b=45 then ini r true iw sm
  else if bg then (if iw then [45] else if sm then [32] else []) ++ zdM (b :: r) ++ ini r false true true
  else ini r false iw sm
theorem zdG (b:UInt8) (r:Bs) (bg iw sm:Bool):ini (b :: r) bg iw sm=if b=32 then ini r true false sm else if b=45 then ini r true iw sm
  else if bg then (if iw then [45] else if sm then [32] else []) ++ zdM (b :: r) ++ ini r false true true else ini r false iw sm:=rfl
def zbH (c:UInt8) (l:Bs):List Bs:=(za4 c l).filter zfJ
def zkN (w:Bs):Bs:=Lib.join ((zbH 45 w).map zdM) [45]
def zc4 (g:Bs):Bs:=zdR ((zbH 32 g).map zkN)
theorem zt7 (x t:Bs) (iw sm:Bool) (h1:(32:UInt8) ∉ x) (h2:(45:UInt8) ∉ x):ini (x ++ t) false iw sm=ini t false iw sm:=by
 induction x with
 | nil=>rfl
 | cons b x ih =>
  rw[List.cons_append,zdG,if_neg (fun q=>h1 (by rw[q];simp)),if_neg (fun q=>h2 (by rw[q];simp))];rw[if_neg (by simp)];exact ih (fun q=>h1 (by simp [q])) (fun q=>h2 (by simp [q]))
def zzF (iw sm:Bool):Bs:=if iw then [45] else if sm then [32] else []
theorem zqQ (x t:Bs) (iw sm:Bool) (hx:x≠[]) (h1:(32:UInt8) ∉ x) (h2:(45:UInt8) ∉ x) (ht:t=[]\/at8 t 0<128) :
  ini (x ++ t) true iw sm=zzF iw sm ++ zdM x ++ ini t false true true:=by
 cases x with
 | nil=>exact absurd rfl hx
 | cons b x =>
  have hd:zdM ((b :: x) ++ t)=zdM (b :: x):=(by unfold zdM;rw[zyP (b :: x) t (by simp) ht]);rw[List.cons_append] at hd ⊢;rw[zdG,if_neg (fun q=>h1 (by rw[q];simp)),if_neg (fun q=>h2 (by rw[q];simp)),if_pos rfl,hd,
   zt7 x t true true (fun q=>h1 (by simp [q])) (fun q=>h2 (by simp [q]))]
  rfl
def TailOK (t:Bs):Prop:=t=[]\/∃ r,t=32 :: r
theorem TailOK.low {t:Bs} (h:TailOK t):t=[]\/at8 t 0<128:=by
 rcases h with rfl|⟨r,rfl⟩
 ·exact .inl rfl
 ·exact .inr (by show ((32:UInt8).toNat:Int)<128;decide)
theorem TailOK.same {t:Bs} (h:TailOK t) (bg iw sm:Bool):ini t bg iw sm=ini t true false sm:=by
 rcases h with rfl|⟨r,rfl⟩
 ·rfl
 ·rw[zdG,zdG];simp
theorem zlX (c:UInt8) (l:Bs):c ∉ l\/∃ a r,l=a ++ c :: r/\c ∉ a/\r.length<l.length:=by
 rcases zhP l c with ⟨_,h⟩|⟨i,_,h2,h3,h4⟩
 ·exact .inl h
 ·exact .inr ⟨l.take i,l.drop (i+1),h4,h3,by simp;omega⟩
def zeM (iw sm:Bool) (ps:List Bs):Bs:=if ps=[] then [] else zzF iw sm ++ Lib.join (ps.map zdM) [45]
theorem zoW (sep x:Bs) (r:List Bs):Lib.join (x :: r) sep=x ++ (if r=[] then [] else sep ++ Lib.join r sep):=by
 cases r with
 | nil=>simp [Lib.join_one]
 | cons y r =>
  rw[Lib.join_cons,Lib.join_cons];simp [Lib.joinTail]
theorem zsR (c:UInt8) (l:Bs) (h:c ∉ l):zbH c l=if l=[] then [] else [l]:=by
 unfold zbH;rw[zfG c l h];by_cases q:l=[]
 ·subst q;rfl
 ·rw[if_neg q];simp [zfJ,q]
theorem zzG (c:UInt8) (a r:Bs) (h:c ∉ a):zbH c (a ++ c :: r)=(if a=[] then [] else [a]) ++ zbH c r:=by
 unfold zbH;rw[zkY c a r h,List.filter_cons];by_cases q:a=[]
 ·subst q;rfl
 ·rw[if_neg q,if_pos (by simp [zfJ,q])];rfl
theorem zkO:∀ (n:Nat) (w t:Bs) (iw sm:Bool),w.length<=n->(32:UInt8) ∉ w->TailOK t ->
  ini (w ++ t) true iw sm=zeM iw sm (zbH 45 w) ++ ini t true false (sm || !(zbH 45 w).isEmpty)
 | n,w,t,iw,sm,hn,h32,ht=>by
  rcases zlX 45 w with h|⟨a,r,rfl,ha,hr⟩
  ·rw[zsR 45 w h];by_cases q:w=[]
   ·subst q;rw[if_pos rfl,List.nil_append,ht.same];simp [zeM]
   ·rw[if_neg q,zqQ w t iw sm q h32 h ht.low,ht.same];simp [zeM,Lib.join_one]
  ·cases n with
   | zero=>simp at hn
   | succ n =>
    have h32a:(32:UInt8) ∉ a:=fun q=>h32 (by simp [q]);have h32r:(32:UInt8) ∉ r:=fun q=>h32 (by simp [q]);rw[zzG 45 a r ha];by_cases q:a=[]
    ·subst q;rw[if_pos rfl,List.nil_append,List.nil_append,List.cons_append,zdG,if_neg (by decide),if_pos rfl];exact zkO n r t iw sm (by simp at hr hn;omega) h32r ht
    ·rw[if_neg q,List.append_assoc,List.cons_append,zqQ a (45 :: (r ++ t)) iw sm q h32a ha (.inr (by show ((45:UInt8).toNat:Int)<128;decide)),
      zdG,if_neg (by decide),if_pos rfl,zkO n r t true true (by simp at hr hn;omega) h32r ht]
     by_cases z:zbH 45 r=[]
     ·rw[z];simp [zeM,Lib.join_one]
     ·have e1:zeM true true (zbH 45 r)=[45] ++ Lib.join ((zbH 45 r).map zdM) [45]:=(by unfold zeM;rw[if_neg z];rfl);have e2:zeM iw sm ([a] ++ zbH 45 r)=zzF iw sm ++ (zdM a ++ ([45] ++ Lib.join ((zbH 45 r).map zdM) [45])):=by
       unfold zeM;rw[if_neg (by simp),List.singleton_append,List.map_cons,zoW,if_neg (by simpa using z)]
      rw[e1,e2];simp
theorem zzH (x:Bs):zdM x≠[]:=by unfold zdM;simp
theorem zkP (w:Bs):zkN w=[]↔zbH 45 w=[]:=by
 unfold zkN;constructor
 ·intro h;cases hp:zbH 45 w with
  | nil=>rfl
  | cons a r =>
   rw[hp,List.map_cons,zoW] at h;simp [zzH] at h
 ·intro h;rw[h];rfl
def zED (g:Bs):List Bs:=((za4 32 g).map zkN).filter zfJ
def zg4 (sm:Bool) (ws:List Bs):Bs:=if ws=[] then [] else zzF false sm ++ Lib.join ws [32]
theorem zjW (sm:Bool) (w:Bs):zeM false sm (zbH 45 w)=zg4 sm ([zkN w].filter zfJ):=by
 unfold zeM zg4;by_cases h:zbH 45 w=[]
 ·rw[if_pos h,(zkP w).2 h];rfl
 ·have hn:zkN w≠[]:=fun q=>h ((zkP w).1 q);have e:[zkN w].filter zfJ=[zkN w]:=(by simp [zfJ,hn]);rw[if_neg h,e,if_neg (by simp),Lib.join_one];rfl
theorem zzI:∀ (n:Nat) (g:Bs) (sm:Bool),g.length<=n->ini g true false sm=zg4 sm (zED g)
 | n,g,sm,hn=>by
  rcases zlX 32 g with h|⟨a,r,rfl,ha,hr⟩
  ·have:=zkO g.length g [] false sm (Nat.le_refl _) h (.inl rfl);rw[List.append_nil] at this;rw[this,zjW];unfold zED;rw[zfG 32 g h];simp [ini]
  ·cases n with
   | zero=>simp at hn
   | succ n =>
    rw[zkO a.length a (32 :: r) false sm (Nat.le_refl _) ha (.inr ⟨r,rfl⟩),zdG,if_pos rfl,zzI n r _ (by simp at hr hn;omega),zjW];unfold zED;rw[zkY 32 a r ha,List.map_cons,List.filter_cons (x:=zkN a) (xs:=(za4 32 r).map zkN)];by_cases h:zbH 45 a=[]
    ·have e:zkN a=[]:=(zkP a).2 h;have e2:(zbH 45 a).isEmpty=true:=(by simp [h]);rw[e,e2,if_neg (by simp [zfJ])];simp [zg4,zfJ]
    ·have hn:zkN a≠[]:=fun q=>h ((zkP a).1 q);have e2:(zbH 45 a).isEmpty=false:=(by simpa using h);have e:[zkN a].filter zfJ=[zkN a]:=(by simp [zfJ,hn]);rw[e,e2,if_pos (by simp [zfJ,hn])];generalize ((za4 32 r).map zkN).filter zfJ=ws;have e3:zg4 sm [zkN a]=zzF false sm ++ zkN a:=(by unfold zg4;rw[if_neg (by simp),Lib.join_one]);have e4:zg4 sm (zkN a :: ws)=zzF false sm ++ (zkN a ++ (if ws=[] then [] else [32] ++ Lib.join ws [32])):=(by unfold zg4;rw[if_neg (by simp),zoW]);rw[e3,e4];unfold zg4;by_cases z:ws=[]
     ·rw[if_pos z,if_pos z];simp
     ·rw[if_neg z,if_neg z];simp [zzF]
theorem zjX (g:Bs):zc4 g=ini g true false false:=by
 rw[zzI g.length g false (Nat.le_refl _)];unfold zc4 zdR zg4 zbH;have e:∀ xs:List Bs,((xs.filter zfJ).map zkN).filter zfJ=(xs.map zkN).filter zfJ:=by
  intro xs
  induction xs with
  | nil=>rfl
  | cons a r ih =>
   rw[List.filter_cons,List.map_cons,List.filter_cons (x:=zkN a)];by_cases q:a=[]
   ·subst q;have:zkN []=[]:=rfl;rw[this,if_neg (by simp [zfJ]),if_neg (by simp [zfJ]),ih]
   ·rw[if_pos (by simp [zfJ,q]),List.map_cons,List.filter_cons (x:=zkN a),ih]
 rw[e];by_cases z:zED g=[]
 ·rw[if_pos z];unfold zED at z;rw[z];rfl
 ·rw[if_neg z];rfl
def zc8 (ns:List Int):Bs:=ns.flatMap zn3
theorem zlY (ns:List Int) (c:Int):zc8 (ns ++ [c])=zc8 ns ++ zn3 c:=by simp [zc8]
theorem znQ (ns:List Int) (c d:Int):zc8 (ns ++ [c,d])=zc8 ns ++ zn3 c ++ zn3 d:=by simp [zc8]
theorem zlZ:∀ (ns:List Int) (x:Bs),ns.foldl (fun r n=>r ++ Utf8.encode n) (bs x)=bs (x ++ zc8 ns)
 | [],x=>by simp [zc8]
 | n :: ns,x=>by
  rw[List.foldl_cons,zpT,zpJ,zlZ ns];simp [zc8]
theorem ziL (ns:List Int):runesBytes ns=bs (zc8 ns):=by
 unfold runesBytes;rw[zAZ,zlZ];simp
def zbE (ns:List Int):List Value:=ns.map (Value.int .i32)
theorem zzJ (w:World) (base:Nat) (v:Value) (ns:List Int) (h:w.ownsRow base 21 1 v ns.length (zbE ns)) :
  (convert 151 9 v).run Tryz.prog w=.ok (.string (bs (zc8 ns))) w:=by
 rcases h.2 with ⟨rfl,hn⟩|⟨g,cap,cur,rfl,_⟩
 ·obtain rfl:ns=[]:=List.length_eq_zero_iff.1 hn;rw[run_convert_runes_string w 151 9 21 none 0 0 Tryz.underlying151 Tryz.underlying21 Tryz.underlying9];simp [Conv.runesToString,zc8,Sem.run_pure]
 ·rw[run_convert_runes_string w 151 9 21 _ _ _ Tryz.underlying151 Tryz.underlying21 Tryz.underlying9];have hc:=h.cells (g:=g) rfl;have hl:=run_loadCells_list (P:=Tryz.prog) (w:=w) ⟨g,0,none⟩ (zbE ns) hc;have e:(zbE ns).length=ns.length:=(by simp [zbE]);rw[e] at hl;rw[run_runesToString w ⟨g,0,none⟩ ns.length cap ns hl,ziL]
theorem zBR (g:Bs) (pos:Nat) (h:pos<g.length) (c n:Int) (hd:dec (bs g) pos=(c,n)) (bg iw sm:Bool) :
  (c=32/\n=1/\ini (g.drop pos) bg iw sm=ini (g.drop (pos+1)) true false sm) \/
  (c=45/\n=1/\ini (g.drop pos) bg iw sm=ini (g.drop (pos+1)) true iw sm) \/
  (c≠32/\c≠45/\ini (g.drop pos) bg iw sm=if bg then zzF iw sm ++ (zn3 c ++ [46]) ++ ini (g.drop (pos+n.toNat)) false true true else ini (g.drop (pos+n.toNat)) false iw sm):=by
 have hp:zdM (g.drop pos)=zn3 c ++ [46]:=(by unfold zdM;rw[zqC,hd]);have hcons:g.drop pos=g[pos] :: g.drop (pos+1):=List.drop_eq_getElem_cons h;have ha:=za7 g pos h;by_cases hlo:at8 g pos<128
 ·have hdd:=zhU g pos hlo;rw[hd] at hdd;obtain ⟨rfl,rfl⟩:=Prod.mk.injEq _ _ _ _ ▸ hdd;rw[hcons] at hp ⊢;rw[zdG];have k32:=zcZ g[pos] 32 (by decide);have k45:=zcZ g[pos] 45 (by decide);rw[<- ha] at k32 k45;by_cases q:g[pos]=32
  ·left;exact ⟨k32.2 q,rfl,by rw[if_pos q]⟩
  by_cases q2:g[pos]=45
  ·right;left;exact ⟨k45.2 q2,rfl,by rw[if_neg q,if_pos q2]⟩
  ·right;right;refine ⟨fun e=>q (k32.1 e),fun e=>q2 (k45.1 e),?_⟩;rw[if_neg q,if_neg q2,hp];rfl
 ·right;right;obtain ⟨hc,hbytes⟩:=zhV (bs g) pos (by rw[zbI];omega);rw[hd] at hc hbytes;simp only at hc hbytes;have hb:=za8 (bs g) pos h;rw[hd] at hb;simp only[zeI] at hb;refine ⟨by omega,by omega,?_⟩;have hq:g[pos]≠32:=fun e=>by
     rw[e] at ha;have:((32:UInt8).toNat:Int)=32:=(by decide);omega
  have hq2:g[pos]≠45:=fun e=>by
     rw[e] at ha;have:((45:UInt8).toNat:Int)=45:=(by decide);omega
  have hsplit:g.drop (pos+1)=(g.drop (pos+1)).take (n.toNat - 1) ++ g.drop (pos+n.toNat):=by
   conv=>lhs;rw[<- List.take_append_drop (n.toNat - 1) (g.drop (pos+1))]
   rw[List.drop_drop,show pos+1+(n.toNat - 1)=pos+n.toNat from by omega]
  have hnot:∀ x∈(g.drop (pos+1)).take (n.toNat - 1),128<=(x.toNat:Int):=by
   intro x hx;obtain ⟨j,hj,rfl⟩:=List.getElem_of_mem hx;simp only[List.length_take,List.length_drop] at hj;have hbj:=hbytes (1+j) (by omega);rw[zbI,<- Nat.add_assoc,za7 g (pos+1+j) (by omega)] at hbj;simp only[List.getElem_take,List.getElem_drop];exact hbj
  have hsk:∀ iw sm,ini (g.drop (pos+1)) false iw sm=ini (g.drop (pos+n.toNat)) false iw sm:=by
   intro iw sm;rw[hsplit];exact zt7 _ _ iw sm (fun q=>by have:=hnot _ q;revert this;decide) (fun q=>by have:=hnot _ q;revert this;decide)
  rw[hcons] at hp ⊢;rw[zdG,if_neg hq,if_neg hq2,hp,hsk,hsk];rfl
theorem Tryz.infoRune:(Tryz.prog.info? 21).map (fun i=>(i.zero,i.size,i.bytes))=some (some (.int .i32 0),1,4):=by kernel_rfl
theorem zfB {w w':World} {base k:Nat} {e:TypeId} {size:Nat} {v:Value} {n:Nat} {xs:List Value} {o:Obj} (h:w.ownsRow base e size v n xs) (hg:(w.alloc o).grownBy w' v.ownBlock) (hk:k<base) (hb:base<=w.heap.size) :
  w'.heap[k]? = w.heap[k]? /\ base<=w'.heap.size/\Below base w w':=by
 have hB:Below base w w':=((Below.refl base w).alloc hb o).trans (zaO (h.alloc o) hg (by simp;omega));exact ⟨hB.block k hk,by have:=hB.size;omega,hB⟩
theorem zv5 {w:World} {base:Nat} {e:TypeId} {size:Nat} {v:Value} {n:Nat} {xs:List Value} (h:w.ownsRow base e size v n xs) (k:Nat) (hk:k<base) (s:ByteArray) (pos:Nat):(w.iterAt k s pos).ownsRow base e size v n xs:=by
 obtain ⟨h1,h2⟩:=h;refine ⟨h1,?_⟩;rcases h2 with h2|⟨g,cap,cur,hv,hg,hh,r⟩
 ·exact Or.inl h2
 ·exact Or.inr ⟨g,cap,cur,hv,hg,by rw[Lib.iterAt_other _ _ _ _ _ (by omega)];exact hh,r⟩
theorem zqR (f g p s:Bs) (w:World) (hs:g.length<=10000000) :
  Calls Tryz.prog 135 #[zf5 f g p s] w fun e w'=>e=.returned (.string (bs (zc4 g)))/\Kept w w':=by
 obtain ⟨i0,hi,hz0,hz1,hz2⟩:=info_parts Tryz.infoRune;have HI:Hid (zc4 g=zc8 [] ++ ini (g.drop 0) true false false):=(by show _=_;rw[zjX];simp [zc8]);go_enter Tryz.func135,Tryz.ntmps135;go_wp2_with fail
 try simp only[zd4]
 go_loopw [3,4,5] (fun v bg iw wr=>∃ (pos:Nat) (ns:List Int) (b i:Bool),pos<=g.length/\ns.length<=3 * pos/\bg=.bool b/\iw=.bool i/\wr.heap[w.heap.size+1]? = some (.stringIter (bs g) pos)/\wr.ownsRow (w.heap.size+2) 21 1 v ns.length (zbE ns)/\w.heap.size+2<=wr.heap.size/\Kept w wr/\Hid (zc4 g=zc8 ns ++ ini (g.drop pos) b i (!ns.isEmpty))) (fun _ _ _ wr=>g.length - wr.iterPos (w.heap.size+1))
 case atStart=>exact ⟨0,[],true,false,Nat.zero_le _,Nat.le_refl _,rfl,rfl,by have:=World.iter_heap (w.alloc (.cells #[.string (bs f),.string (bs g),.string (bs p),.string (bs s)] 77)) (bs g) 0;simpa using this,World.ownsRow_nil _ _ _ _,by simp [World.iter],(zaA _ _).trans (zaA _ _),HI⟩
 case round =>
  obtain ⟨pos,ns,b,i,hp,hnl,rfl,rfl,hit,hown,hsz,hk,HA⟩:=hrel;have hip:wr.iterPos (w.heap.size+1)=pos:=(by simp [World.iterPos,hit]);by_cases hlt:pos<g.length
  ·have nx:=fun ty=>zcT (P:=Tryz.prog) wr (w.heap.size+1) (bs g) pos ty hit hlt;obtain ⟨c,n,hd⟩:∃ c n,dec (bs g) pos=(c,n):=⟨(dec (bs g) pos).1,(dec (bs g) pos).2,rfl⟩;have hb:=za8 (bs g) pos hlt;have hst:=zBR g pos hlt c n hd b i (!ns.isEmpty);rw[hd] at nx hb;simp only[zeI] at nx hb;obtain ⟨b1,b2,b3,b4,b5⟩:=hb;obtain ⟨n,rfl⟩:∃ n':Nat,n=n':=⟨n.toNat,by omega⟩;simp only[Int.toNat_natCast] at nx hst;have HIT:Hid ((wr.iterAt (w.heap.size+1) (bs g) (pos+n)).heap[w.heap.size+1]? = some (.stringIter (bs g) (pos+n))):=Lib.iterAt_heap wr (w.heap.size+1) (bs g) pos (pos+n) hit;have HK2:Hid (Kept w (wr.iterAt (w.heap.size+1) (bs g) (pos+n))):=Lib.below_iterAt hk (by omega) (bs g) _;have HO2:=Hd (zv5 hown (w.heap.size+1) (by omega) (bs g) (pos+n));have hsz2:w.heap.size+2<=(wr.iterAt (w.heap.size+1) (bs g) (pos+n)).heap.size:=(by rw[Lib.iterAt_size];exact hsz);have HIP:=Hd hip;clear hip hk hown hd hit;generalize wr.iterAt (w.heap.size+1) (bs g) (pos+n)=wq at *;have HIQ:Hid (wq.iterPos (w.heap.size+1)=pos+n):=(by show _=_;have:=HIT.out;simp [World.iterPos,this]);have hpn:pos+n<=g.length:=(by omega);rcases hst with ⟨rfl,h1,hst⟩|⟨rfl,h1,hst⟩|⟨h1,h2,hst⟩
   ·have HST:=Hd hst;obtain rfl:n=1:=(by omega);clear hst h1;go_wp2_with fail;go_roundw
    case rel=>exact ⟨pos+1,ns,true,false,by omega,by omega,rfl,rfl,HIT.out,HO2.out,hsz2,HK2.out,by show _=_;rw[HA.out,HST.out]⟩
    case measure=>rw[HIP.out,HIQ.out];omega
   ·have HST:=Hd hst;obtain rfl:n=1:=(by omega);clear hst h1;go_wp2_with fail;go_roundw
    case rel=>exact ⟨pos+1,ns,true,i,by omega,by omega,rfl,rfl,HIT.out,HO2.out,hsz2,HK2.out,by show _=_;rw[HA.out,HST.out]⟩
    case measure=>rw[HIP.out,HIQ.out];omega
   ·have t1:(c == 32)=false:=(by simpa using h1);have t2:(c == 45)=false:=(by simpa using h2);have HST:=Hd hst;clear hst h1 h2;cases b
    ·go_wp2_with fail;go_roundw
     case rel=>exact ⟨pos+n,ns,false,i,by omega,by omega,rfl,rfl,HIT.out,HO2.out,hsz2,HK2.out,by show _=_;rw[HA.out,HST.out];rfl⟩
     case measure=>rw[HIP.out,HIQ.out];omega
    ·have hown:=HO2.out;clear HO2;have HNE:Hid (∀ x y z:Int,(ns ++ [x,y,z]).isEmpty=false):=(by intro x y z;cases ns <;> rfl);obtain ⟨av,cv,hv,q1,q2,_⟩:=za1 hown;subst hv;cases i
     ·by_cases hns:ns=[]
      ·subst hns;simp only[List.length_nil,zbE,List.map_nil] at hown hnl;go_wp2_with (at_builtin;refine wpList_append_own _ rfl _ _ 151 rfl (w.heap.size+2) 21 i0 (.int .i32 0) 1 4 Tryz.underlying151 hi hz0 hz1 hz2 rfl (by decide) _ _ _ rfl (hown.alloc _) ⟨wq.heap.size,0,none⟩ 2 2 [.int .i32 c,.int .i32 46] rfl rfl (by exact za5 _ #[.int .i32 c,.int .i32 46] _ _ (by simp)) (by intro u hu;simp at hu;first|(subst hu;rfl)|(rcases hu with rfl|rfl <;> rfl)) (by unfold maxLen;first|omega|(simp;omega)) (by first|omega|(simp;omega)) (by first|omega|(simp;omega)) ?_);intro v2 w3 hown2 hgrow _;obtain ⟨r1,hown2z,r3⟩:=zfB (k:=w.heap.size+1) hown hgrow (by omega) (by omega);have HIT2:=Hd (r1.trans HIT.out);have HB2:=Hd r3;have HOX:Hid (w3.ownsRow (w.heap.size+2) 21 1 v2 ([c,46]:List Int).length (zbE [c,46])):=(by show World.ownsRow _ _ _ _ _ _ _;simpa [zbE] using hown2);clear hown2 hgrow r1 r3 hown;go_wp2_with fail;go_roundw
       case rel=>exact ⟨pos+n,[c,46],false,true,by omega,by simp;omega,rfl,rfl,HIT2.out,HOX.out,hown2z,HK2.out.trans' (HB2.out.mono (by omega)),by show _=_;rw[HA.out,HST.out];simp [zzF,zc8,show zn3 46=[46] from rfl]⟩
       case measure=>rw[HIP.out,show w3.iterPos (w.heap.size+1)=pos+n from by have:=HIT2.out;simp [World.iterPos,this]];omega
      ·have hpos:0<ns.length:=List.length_pos_iff.2 hns;have hne:ns.isEmpty=false:=(by simpa using hns);go_wp2_with (at_builtin;refine wpList_append_own _ rfl _ _ 151 rfl (w.heap.size+2) 21 i0 (.int .i32 0) 1 4 Tryz.underlying151 hi hz0 hz1 hz2 rfl (by decide) _ _ _ rfl (hown.alloc _) ⟨wq.heap.size,0,none⟩ 1 1 [.int .i32 32] rfl rfl (by exact za5 _ #[.int .i32 32] _ _ (by simp)) (by intro u hu;simp at hu;first|(subst hu;rfl)|(rcases hu with rfl|rfl <;> rfl)) (by unfold maxLen;first|omega|(simp;omega)) (by first|omega|(simp;omega)) (by first|omega|(simp;omega)) ?_);intro v1 w2 hown1 hgrow _;obtain ⟨r1,hown1z,r3⟩:=zfB (k:=w.heap.size+1) hown hgrow (by omega) (by omega);rw[show zbE ns ++ [Value.int .i32 32]=zbE (ns ++ [32]) from by simp [zbE]] at hown1;have HIT1:=Hd (r1.trans HIT.out);have HB1:=Hd r3;have HO1:Hid (w2.ownsRow (w.heap.size+2) 21 1 v1 (ns ++ [32]).length (zbE (ns ++ [32]))):=(by show World.ownsRow _ _ _ _ _ _ _;simpa using hown1);clear hown1 hgrow r1 r3 hown;have hown1:=HO1.out;go_wp2_with (at_builtin;refine wpList_append_own _ rfl _ _ 151 rfl (w.heap.size+2) 21 i0 (.int .i32 0) 1 4 Tryz.underlying151 hi hz0 hz1 hz2 rfl (by decide) _ _ _ rfl (hown1.alloc _) ⟨w2.heap.size,0,none⟩ 2 2 [.int .i32 c,.int .i32 46] rfl rfl (by exact za5 _ #[.int .i32 c,.int .i32 46] _ _ (by simp)) (by intro u hu;simp at hu;first|(subst hu;rfl)|(rcases hu with rfl|rfl <;> rfl)) (by unfold maxLen;first|omega|(simp;omega)) (by first|omega|(simp;omega)) (by first|omega|(simp;omega)) ?_);intro v2 w3 hown2 hgrow _;obtain ⟨r1,hown2z,r3⟩:=zfB (k:=w.heap.size+1) hown1 hgrow (by omega) (by omega);have HIT2:=Hd (r1.trans HIT1.out);have HB2:=Hd r3;have HOX:Hid (w3.ownsRow (w.heap.size+2) 21 1 v2 ((ns ++ [32]) ++ [c,46]).length (zbE ((ns ++ [32]) ++ [c,46]))):=(by show World.ownsRow _ _ _ _ _ _ _;simpa [zbE] using hown2);clear hown2 hgrow r1 r3 hown1;go_wp2_with fail;go_roundw
       case rel=>exact ⟨pos+n,(ns ++ [32]) ++ [c,46],false,true,by omega,by simp;omega,rfl,rfl,HIT2.out,HOX.out,hown2z,HK2.out.trans' ((HB1.out.trans HB2.out).mono (by omega)),by show _=_;rw[HA.out,HST.out,znQ,zlY];simp [zzF,HNE.out,hne,show zn3 32=[32] from rfl,show zn3 46=[46] from rfl]⟩
       case measure=>rw[HIP.out,show w3.iterPos (w.heap.size+1)=pos+n from by have:=HIT2.out;simp [World.iterPos,this]];omega
     ·obtain ⟨sm,hsm⟩:∃ sm,(!ns.isEmpty)=sm:=⟨_,rfl⟩;go_wp2_with (at_builtin;refine wpList_append_own _ rfl _ _ 151 rfl (w.heap.size+2) 21 i0 (.int .i32 0) 1 4 Tryz.underlying151 hi hz0 hz1 hz2 rfl (by decide) _ _ _ rfl (hown.alloc _) ⟨wq.heap.size,0,none⟩ 1 1 [.int .i32 45] rfl rfl (by exact za5 _ #[.int .i32 45] _ _ (by simp)) (by intro u hu;simp at hu;first|(subst hu;rfl)|(rcases hu with rfl|rfl <;> rfl)) (by unfold maxLen;first|omega|(simp;omega)) (by first|omega|(simp;omega)) (by first|omega|(simp;omega)) ?_);intro v1 w2 hown1 hgrow _;obtain ⟨r1,hown1z,r3⟩:=zfB (k:=w.heap.size+1) hown hgrow (by omega) (by omega);rw[show zbE ns ++ [Value.int .i32 45]=zbE (ns ++ [45]) from by simp [zbE]] at hown1;have HIT1:=Hd (r1.trans HIT.out);have HB1:=Hd r3;have HO1:Hid (w2.ownsRow (w.heap.size+2) 21 1 v1 (ns ++ [45]).length (zbE (ns ++ [45]))):=(by show World.ownsRow _ _ _ _ _ _ _;simpa using hown1);clear hown1 hgrow r1 r3 hown;have hown1:=HO1.out;go_wp2_with (at_builtin;refine wpList_append_own _ rfl _ _ 151 rfl (w.heap.size+2) 21 i0 (.int .i32 0) 1 4 Tryz.underlying151 hi hz0 hz1 hz2 rfl (by decide) _ _ _ rfl (hown1.alloc _) ⟨w2.heap.size,0,none⟩ 2 2 [.int .i32 c,.int .i32 46] rfl rfl (by exact za5 _ #[.int .i32 c,.int .i32 46] _ _ (by simp)) (by intro u hu;simp at hu;first|(subst hu;rfl)|(rcases hu with rfl|rfl <;> rfl)) (by unfold maxLen;first|omega|(simp;omega)) (by first|omega|(simp;omega)) (by first|omega|(simp;omega)) ?_);intro v2 w3 hown2 hgrow _;obtain ⟨r1,hown2z,r3⟩:=zfB (k:=w.heap.size+1) hown1 hgrow (by omega) (by omega);have HIT2:=Hd (r1.trans HIT1.out);have HB2:=Hd r3;have HOX:Hid (w3.ownsRow (w.heap.size+2) 21 1 v2 ((ns ++ [45]) ++ [c,46]).length (zbE ((ns ++ [45]) ++ [c,46]))):=(by show World.ownsRow _ _ _ _ _ _ _;simpa [zbE] using hown2);clear hown2 hgrow r1 r3 hown1;go_wp2_with fail;go_roundw
      case rel=>exact ⟨pos+n,(ns ++ [45]) ++ [c,46],false,true,by omega,by simp;omega,rfl,rfl,HIT2.out,HOX.out,hown2z,HK2.out.trans' ((HB1.out.trans HB2.out).mono (by omega)),by show _=_;rw[HA.out,HST.out,znQ,zlY];simp [zzF,HNE.out,show zn3 45=[45] from rfl,show zn3 46=[46] from rfl]⟩
      case measure=>rw[HIP.out,show w3.iterPos (w.heap.size+1)=pos+n from by have:=HIT2.out;simp [World.iterPos,this]];omega
  ·have nx:=fun ty=>zbR (P:=Tryz.prog) wr (w.heap.size+1) (bs g) pos ty hit hlt;have cv:=zzJ wr _ _ ns hown;have HK:=Hd hk;clear hk;go_wp2_with fail;go_ret;exact ⟨zc7 (by rw[HA.out,List.drop_of_length_le (by omega)];simp [ini]),HK.out⟩
theorem zBS (c:Int):(zn3 c).length<=4:=by have:=encode_size_le c;exact this
theorem zqS (s:ByteArray) (i:Nat):0<=(dec s i).1/\(dec s i).1<=1114111/\((dec s i).1<55296\/57343<(dec s i).1):=by
 have h0:=zaM s i;have m0:∀ k l h,¬ zaF s k l h<0->128<=l->l - 128<=zaF s k l h/\zaF s k l h<=h - 128:=by
  intro k l h q hl;obtain ⟨_,h1,h2,h3⟩:=zgM (s:=s) (i:=k) (l:=l) (h:=h) (by omega);omega
 unfold dec
 split
 ·simp only;omega
 split
 ·split
  ·rename_i q;have:=m0 (i+1) 128 191 (by omega) (by omega);simp only;omega
  ·simp only;omega
 split
 ·rename_i hb;unfold zhA
  split
  ·simp only;omega
  ·rename_i q;simp only[not_or] at q;have a:=m0 (i+1) (zfL (zaC s i)) (zcW (zaC s i)) q.1 (by unfold zfL;split <;> omega);have b:=m0 (i+2) 128 191 q.2 (by omega);have c:zcW (zaC s i)<=191/\(zaC s i=237->zcW (zaC s i)=159):=(by unfold zcW;split <;> omega);have d:128<=zfL (zaC s i):=(by unfold zfL;split <;> omega);simp only;omega
 split
 ·rename_i hb;unfold zr5
  split
  ·simp only;omega
  ·rename_i q;simp only[not_or] at q;have a:=m0 (i+1) (zfF (zaC s i)) (zcX (zaC s i)) q.1 (by unfold zfF;split <;> omega);have b:=m0 (i+2) 128 191 q.2.1 (by omega);have b2:=m0 (i+3) 128 191 q.2.2 (by omega);have c:zcX (zaC s i)<=191/\(zaC s i=244->zcX (zaC s i)=143):=(by unfold zcX;split <;> omega);have d:128<=zfF (zaC s i)/\(zaC s i=240->zfF (zaC s i)=144):=(by unfold zfF;split <;> omega);simp only;omega
 ·simp only;omega
theorem zl0:∀ (l:Bs) (bg iw sm:Bool),(ini l bg iw sm).length<=6 * l.length
 | [],_,_,_=>by simp [ini]
 | b :: r,bg,iw,sm=>by
  rw[zdG];have h1:=zl0 r true false sm;have h2:=zl0 r true iw sm;have h3:=zl0 r false true true;have h4:=zl0 r false iw sm;have hp:(zdM (b :: r)).length<=5:=(by unfold zdM;have:=zBS (dec (bs (b :: r)) 0).1;simp;omega);have hl:(if iw then [45] else if sm then [32] else ([]:Bs)).length<=1:=(by cases iw <;> cases sm <;> simp);simp only[List.length_cons]
  split
  ·omega
  split
  ·omega
  split
  ·simp only[List.length_append];omega
  ·omega
theorem zoX (g:Bs):(zc4 g).length<=6 * g.length:=by rw[zjX];exact zl0 g _ _ _
def ziM (g:Bs) (i:Bool):Bs:=if i then zc4 g else g
def zDF (f g p s:Bs) (i:Bool):Bs:=zdR [p,f] ++ (if ziM g i=[] then [] else [44,32] ++ ziM g i) ++ (if s=[] then [] else [44,32] ++ s)
theorem zjY (f g p s:Bs) (i:Bool) (w:World) (hs:f.length+g.length+p.length+s.length<=1000000) :
  Calls Tryz.prog 87 #[zf5 f g p s,.bool i] w fun e w'=>e=.returned (.string (bs (zDF f g p s i)))/\Kept w w':=by
 have hbu:zu2 [p,f]<=1000002:=(by simp [zu2];omega);have hsh:=zeV [p,f];have hin:=zoX g;have HL:Hid (zDF f g p s i=zdR [p,f] ++ (if ziM g i=[] then [] else [44,32] ++ ziM g i) ++ (if s=[] then [] else [44,32] ++ s)):=rfl;have hgl:(ziM g i).length<=6000000:=(by unfold ziM;split <;> omega);have HS:=Hd (fun w=>zpN f g p s w (by omega));have HI:=Hd (fun w=>zqR f g p s w (by omega));have HGI:Hid (ziM g i=if i then zc4 g else g):=rfl;generalize zdR [p,f]=sh at *;generalize zc4 g=il at *;generalize ziM g i=gv at *;cases i
 ·obtain rfl:gv=g:=HGI.out;clear HGI;by_cases hg:gv=[] <;> by_cases hs':s=[]
  all_goals
   first|subst hg|(have hge:gv.isEmpty=false:=by simpa using hg)
   first|subst hs'|(have hse:s.isEmpty=false:=by simpa using hs')
   try simp only[List.length_nil,Nat.add_zero,Nat.zero_add] at hs
   go_enter Tryz.func87,Tryz.ntmps87;go_wp2_with fail;refine (HS.out _).mono ?_;rintro e w1 ⟨rfl,hk1⟩;obtain ⟨kc,kf⟩:=zaS hk1;have hz:w.heap.size<w1.heap.size:=(by have:=hk1.size;simp at this;omega);have HK:=Hd ((zaA w _).trans hk1);clear hk1;go_wp2_with fail;go_ret;exact ⟨zc7 (by rw[HL.out];simp [*]),HK.out⟩
 ·obtain rfl:gv=il:=HGI.out;clear HGI;by_cases hg:gv=[] <;> by_cases hs':s=[]
  all_goals
   first|subst hg|(have hge:gv.isEmpty=false:=by simpa using hg)
   first|subst hs'|(have hse:s.isEmpty=false:=by simpa using hs')
   try simp only[List.length_nil,Nat.add_zero,Nat.zero_add] at hs
   go_enter Tryz.func87,Tryz.ntmps87;go_wp2_with fail;refine (HI.out _).mono ?_;rintro e w1 ⟨rfl,hk1⟩;obtain ⟨kc,kf⟩:=zaS hk1;have hz:w.heap.size<w1.heap.size:=(by have:=hk1.size;simp at this;omega);have HK1:=Hd hk1;clear hk1;go_wp2_with fail;refine (HS.out _).mono ?_;rintro e w2 ⟨rfl,hk2⟩;have HK2:=Hd (HK1.out.trans hk2);clear kc kf hk2 hz;obtain ⟨kc,kf⟩:=zaS HK2.out;have hz:w.heap.size<w2.heap.size:=(by have:=HK2.out.size;simp at this;omega);have HK:=Hd ((zaA w _).trans HK2.out);go_wp2_with fail;go_ret;exact ⟨zc7 (by rw[HL.out];simp [*]),HK.out⟩
end Go.Proofs.YtmcoomlkbgiboaaGreatDoor
