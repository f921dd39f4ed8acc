/- Plain law of initials: what a walk over code points gathers is what the pieces' first code points make. No condition. -/
import Derived.Test.YtmcoomlkbgiboaaGreatDoorV06
import Derived.Test.YtmcoomlkbgiboaaGreatDoorV16
import Derived.Test.YtmcoomlkbgiboaaGreatDoorV04
import Derived.Laws.Cover4
set_option linter.all false
set_option maxRecDepth 100000
set_option maxHeartbeats 6400000
namespace Go.Proofs.YtmcoomlkbgiboaaGreatDoor
open Go.RowKit
def zbU (x:Bs):Bs:=zgS (dec (bs x) 0).1 ++ [46]
def ini:Bs->Bool->Bool->Bool->Bs
 | [],_,_,_=>[]
 | b :: r,bg,iw,sm =>
  if b=32 then ini r true false sm
  else if b=45 then ini r true iw sm
  else if bg then (if iw then [45] else if sm then [32] else []) ++ zbU (b :: r) ++ ini r false true true
  else ini r false iw sm
theorem zdN (b:UInt8) (r:Bs) (bg iw sm:Bool):ini (b :: r) bg iw sm=if b=32 then ini r true false sm else if b=45 then ini r true iw sm
  else if bg then (if iw then [45] else if sm then [32] else []) ++ zbU (b :: r) ++ ini r false true true else ini r false iw sm:=rfl
def zaU (c:UInt8) (l:Bs):List Bs:=(za1 c l).filter zdE
def zf6 (w:Bs):Bs:=Lib.join ((zaU 45 w).map zbU) [45]
def zb5 (g:Bs):Bs:=zbM ((zaU 32 g).map zf6)
theorem zu0 (x t:Bs) (iw sm:Bool) (h1:(32:UInt8) ∉ x) (h2:(45:UInt8) ∉ x):ini (x ++ t) false iw sm=ini t false iw sm:=by
 induction x with
 | nil=>rfl
 | cons b x ih =>
  rw[List.cons_append,zdN,if_neg (fun q=>h1 (by rw[q];simp)),if_neg (fun q=>h2 (by rw[q];simp))];rw[if_neg (by simp)];exact ih (fun q=>h1 (by simp [q])) (fun q=>h2 (by simp [q]))
def zz3 (iw sm:Bool):Bs:=if iw then [45] else if sm then [32] else []
theorem zrH (x t:Bs) (iw sm:Bool) (hx:x≠[]) (h1:(32:UInt8) ∉ x) (h2:(45:UInt8) ∉ x) (ht:t=[]\/at8 t 0<128) :
  ini (x ++ t) true iw sm=zz3 iw sm ++ zbU x ++ ini t false true true:=by
 cases x with
 | nil=>exact absurd rfl hx
 | cons b x =>
  have hd:zbU ((b :: x) ++ t)=zbU (b :: x):=(by unfold zbU;rw[zy8 (b :: x) t (by simp) ht]);rw[List.cons_append] at hd ⊢;rw[zdN,if_neg (fun q=>h1 (by rw[q];simp)),if_neg (fun q=>h2 (by rw[q];simp)),if_pos rfl,hd,
   zu0 x t true true (fun q=>h1 (by simp [q])) (fun q=>h2 (by simp [q]))]
  rfl
def TailOK (t:Bs):Prop:=t=[]\/∃ r,t=32 :: r
theorem TailOK.low {t:Bs} (h:TailOK t):t=[]\/at8 t 0<128:=by
 rcases h with rfl|⟨r,rfl⟩
 ·exact .inl rfl
 ·exact .inr (by show ((32:UInt8).toNat:Int)<128;decide)
theorem TailOK.same {t:Bs} (h:TailOK t) (bg iw sm:Bool):ini t bg iw sm=ini t true false sm:=by
 rcases h with rfl|⟨r,rfl⟩
 ·rfl
 ·rw[zdN,zdN];simp
theorem zl9 (c:UInt8) (l:Bs):c ∉ l\/∃ a r,l=a ++ c :: r/\c ∉ a/\r.length<l.length:=by
 rcases zhY l c with ⟨_,h⟩|⟨i,_,h2,h3,h4⟩
 ·exact .inl h
 ·exact .inr ⟨l.take i,l.drop (i+1),h4,h3,by simp;omega⟩
def zeU (iw sm:Bool) (ps:List Bs):Bs:=if ps=[] then [] else zz3 iw sm ++ Lib.join (ps.map zbU) [45]
theorem zpH (sep x:Bs) (r:List Bs):Lib.join (x :: r) sep=x ++ (if r=[] then [] else sep ++ Lib.join r sep):=by
 cases r with
 | nil=>simp [Lib.join_one]
 | cons y r =>
  rw[Lib.join_cons,Lib.join_cons];simp [Lib.joinTail]
theorem ztF (c:UInt8) (l:Bs) (h:c ∉ l):zaU c l=if l=[] then [] else [l]:=by
 unfold zaU;rw[zfK c l h];by_cases q:l=[]
 ·subst q;rfl
 ·rw[if_neg q];simp [zdE,q]
theorem zz4 (c:UInt8) (a r:Bs) (h:c ∉ a):zaU c (a ++ c :: r)=(if a=[] then [] else [a]) ++ zaU c r:=by
 unfold zaU;rw[zlC c a r h,List.filter_cons];by_cases q:a=[]
 ·subst q;rfl
 ·rw[if_neg q,if_pos (by simp [zdE,q])];rfl
theorem zk2:∀ (n:Nat) (w t:Bs) (iw sm:Bool),w.length<=n->(32:UInt8) ∉ w->TailOK t ->
  ini (w ++ t) true iw sm=zeU iw sm (zaU 45 w) ++ ini t true false (sm || !(zaU 45 w).isEmpty)
 | n,w,t,iw,sm,hn,h32,ht=>by
  rcases zl9 45 w with h|⟨a,r,rfl,ha,hr⟩
  ·rw[ztF 45 w h];by_cases q:w=[]
   ·subst q;rw[if_pos rfl,List.nil_append,ht.same];simp [zeU]
   ·rw[if_neg q,zrH w t iw sm q h32 h ht.low,ht.same];simp [zeU,Lib.join_one]
  ·cases n with
   | zero=>simp at hn
   | succ n =>
    have h32a:(32:UInt8) ∉ a:=fun q=>h32 (by simp [q]);have h32r:(32:UInt8) ∉ r:=fun q=>h32 (by simp [q]);rw[zz4 45 a r ha];by_cases q:a=[]
    ·subst q;rw[if_pos rfl,List.nil_append,List.nil_append,List.cons_append,zdN,if_neg (by decide),if_pos rfl];exact zk2 n r t iw sm (by simp at hr hn;omega) h32r ht
    ·rw[if_neg q,List.append_assoc,List.cons_append,zrH a (45 :: (r ++ t)) iw sm q h32a ha (.inr (by show ((45:UInt8).toNat:Int)<128;decide)),
      zdN,if_neg (by decide),if_pos rfl,zk2 n r t true true (by simp at hr hn;omega) h32r ht]
     by_cases z:zaU 45 r=[]
     ·rw[z];simp [zeU,Lib.join_one]
     ·have e1:zeU true true (zaU 45 r)=[45] ++ Lib.join ((zaU 45 r).map zbU) [45]:=(by unfold zeU;rw[if_neg z];rfl);have e2:zeU iw sm ([a] ++ zaU 45 r)=zz3 iw sm ++ (zbU a ++ ([45] ++ Lib.join ((zaU 45 r).map zbU) [45])):=by
       unfold zeU;rw[if_neg (by simp),List.singleton_append,List.map_cons,zpH,if_neg (by simpa using z)]
      rw[e1,e2];simp
theorem zz5 (x:Bs):zbU x≠[]:=by unfold zbU;simp
theorem zk3 (w:Bs):zf6 w=[]↔zaU 45 w=[]:=by
 unfold zf6;constructor
 ·intro h;cases hp:zaU 45 w with
  | nil=>rfl
  | cons a r =>
   rw[hp,List.map_cons,zpH] at h;simp [zz5] at h
 ·intro h;rw[h];rfl
def zE4 (g:Bs):List Bs:=((za1 32 g).map zf6).filter zdE
def zhE (sm:Bool) (ws:List Bs):Bs:=if ws=[] then [] else zz3 false sm ++ Lib.join ws [32]
theorem zkD (sm:Bool) (w:Bs):zeU false sm (zaU 45 w)=zhE sm ([zf6 w].filter zdE):=by
 unfold zeU zhE;by_cases h:zaU 45 w=[]
 ·rw[if_pos h,(zk3 w).2 h];rfl
 ·have hn:zf6 w≠[]:=fun q=>h ((zk3 w).1 q);have e:[zf6 w].filter zdE=[zf6 w]:=(by simp [zdE,hn]);rw[if_neg h,e,if_neg (by simp),Lib.join_one];rfl
theorem zz6:∀ (n:Nat) (g:Bs) (sm:Bool),g.length<=n->ini g true false sm=zhE sm (zE4 g)
 | n,g,sm,hn=>by
  rcases zl9 32 g with h|⟨a,r,rfl,ha,hr⟩
  ·have:=zk2 g.length g [] false sm (Nat.le_refl _) h (.inl rfl);rw[List.append_nil] at this;rw[this,zkD];unfold zE4;rw[zfK 32 g h];simp [ini]
  ·cases n with
   | zero=>simp at hn
   | succ n =>
    rw[zk2 a.length a (32 :: r) false sm (Nat.le_refl _) ha (.inr ⟨r,rfl⟩),zdN,if_pos rfl,zz6 n r _ (by simp at hr hn;omega),zkD];unfold zE4;rw[zlC 32 a r ha,List.map_cons,List.filter_cons (x:=zf6 a) (xs:=(za1 32 r).map zf6)];by_cases h:zaU 45 a=[]
    ·have e:zf6 a=[]:=(zk3 a).2 h;have e2:(zaU 45 a).isEmpty=true:=(by simp [h]);rw[e,e2,if_neg (by simp [zdE])];simp [zhE,zdE]
    ·have hn:zf6 a≠[]:=fun q=>h ((zk3 a).1 q);have e2:(zaU 45 a).isEmpty=false:=(by simpa using h);have e:[zf6 a].filter zdE=[zf6 a]:=(by simp [zdE,hn]);rw[e,e2,if_pos (by simp [zdE,hn])];generalize ((za1 32 r).map zf6).filter zdE=ws;have e3:zhE sm [zf6 a]=zz3 false sm ++ zf6 a:=(by unfold zhE;rw[if_neg (by simp),Lib.join_one]);have e4:zhE sm (zf6 a :: ws)=zz3 false sm ++ (zf6 a ++ (if ws=[] then [] else [32] ++ Lib.join ws [32])):=(by unfold zhE;rw[if_neg (by simp),zpH]);rw[e3,e4];unfold zhE;by_cases z:ws=[]
     ·rw[if_pos z,if_pos z];simp
     ·rw[if_neg z,if_neg z];simp [zz3]
theorem zkE (g:Bs):zb5 g=ini g true false false:=by
 rw[zz6 g.length g false (Nat.le_refl _)];unfold zb5 zbM zhE zaU;have e:∀ xs:List Bs,((xs.filter zdE).map zf6).filter zdE=(xs.map zf6).filter zdE:=by
  intro xs
  induction xs with
  | nil=>rfl
  | cons a r ih =>
   rw[List.filter_cons,List.map_cons,List.filter_cons (x:=zf6 a)];by_cases q:a=[]
   ·subst q;have:zf6 []=[]:=rfl;rw[this,if_neg (by simp [zdE]),if_neg (by simp [zdE]),ih]
   ·rw[if_pos (by simp [zdE,q]),List.map_cons,List.filter_cons (x:=zf6 a),ih]
 rw[e];by_cases z:zE4 g=[]
 ·rw[if_pos z];unfold zE4 at z;rw[z];rfl
 ·rw[if_neg z];rfl
def zdF (ns:List Int):Bs:=ns.flatMap zgS
theorem zmA (ns:List Int) (c:Int):zdF (ns ++ [c])=zdF ns ++ zgS c:=by simp [zdF]
theorem zn8 (ns:List Int) (c d:Int):zdF (ns ++ [c,d])=zdF ns ++ zgS c ++ zgS d:=by simp [zdF]
theorem zmB:∀ (ns:List Int) (x:Bs),ns.foldl (fun r n=>r ++ Utf8.encode n) (bs x)=bs (x ++ zdF ns)
 | [],x=>by simp [zdF]
 | n :: ns,x=>by
  rw[List.foldl_cons,zqG,zp4,zmB ns];simp [zdF]
theorem ziQ (ns:List Int):runesBytes ns=bs (zdF ns):=by
 unfold runesBytes;rw[zBn,zmB];simp
def zbD (ns:List Int):List Value:=ns.map (Value.int .i32)
theorem zz7 (w:World) (base:Nat) (v:Value) (ns:List Int) (h:w.ownsRow base 21 1 v ns.length (zbD ns)) :
  (convert 151 9 v).run Tryz.prog w=.ok (.string (bs (zdF ns))) w:=by
 rcases h.2 with ⟨rfl,hn⟩|⟨g,cap,cur,rfl,_⟩
 ·obtain rfl:ns=[]:=List.length_eq_zero_iff.1 hn;rw[run_convert_runes_string w 151 9 21 none 0 0 Tryz.underlying151 Tryz.underlying21 Tryz.underlying9];simp [Conv.runesToString,zdF,Sem.run_pure]
 ·rw[run_convert_runes_string w 151 9 21 _ _ _ Tryz.underlying151 Tryz.underlying21 Tryz.underlying9];have hc:=h.cells (g:=g) rfl;have hl:=run_loadCells_list (P:=Tryz.prog) (w:=w) ⟨g,0,none⟩ (zbD ns) hc;have e:(zbD ns).length=ns.length:=(by simp [zbD]);rw[e] at hl;rw[run_runesToString w ⟨g,0,none⟩ ns.length cap ns hl,ziQ]
theorem zCd (g:Bs) (pos:Nat) (h:pos<g.length) (c n:Int) (hd:dec (bs g) pos=(c,n)) (bg iw sm:Bool) :
  (c=32/\n=1/\ini (g.drop pos) bg iw sm=ini (g.drop (pos+1)) true false sm) \/
  (c=45/\n=1/\ini (g.drop pos) bg iw sm=ini (g.drop (pos+1)) true iw sm) \/
  (c≠32/\c≠45/\ini (g.drop pos) bg iw sm=if bg then zz3 iw sm ++ (zgS c ++ [46]) ++ ini (g.drop (pos+n.toNat)) false true true else ini (g.drop (pos+n.toNat)) false iw sm):=by
 have hp:zbU (g.drop pos)=zgS c ++ [46]:=(by unfold zbU;rw[zq1,hd]);have hcons:g.drop pos=g[pos] :: g.drop (pos+1):=List.drop_eq_getElem_cons h;have ha:=zbE g pos h;by_cases hlo:at8 g pos<128
 ·have hdd:=zh4 g pos hlo;rw[hd] at hdd;obtain ⟨rfl,rfl⟩:=Prod.mk.injEq _ _ _ _ ▸ hdd;rw[hcons] at hp ⊢;rw[zdN];have k32:=zeY g[pos] 32 (by decide);have k45:=zeY g[pos] 45 (by decide);rw[<- ha] at k32 k45;by_cases q:g[pos]=32
  ·left;exact ⟨k32.2 q,rfl,by rw[if_pos q]⟩
  by_cases q2:g[pos]=45
  ·right;left;exact ⟨k45.2 q2,rfl,by rw[if_neg q,if_pos q2]⟩
  ·right;right;refine ⟨fun e=>q (k32.1 e),fun e=>q2 (k45.1 e),?_⟩;rw[if_neg q,if_neg q2,hp];rfl
 ·right;right;obtain ⟨hc,hbytes⟩:=zh5 (bs g) pos (by rw[zbG];omega);rw[hd] at hc hbytes;simp only at hc hbytes;have hb:=za7 (bs g) pos h;rw[hd] at hb;simp only[zeC] at hb;refine ⟨by omega,by omega,?_⟩;have hq:g[pos]≠32:=fun e=>by
     rw[e] at ha;have:((32:UInt8).toNat:Int)=32:=(by decide);omega
  have hq2:g[pos]≠45:=fun e=>by
     rw[e] at ha;have:((45:UInt8).toNat:Int)=45:=(by decide);omega
  have hsplit:g.drop (pos+1)=(g.drop (pos+1)).take (n.toNat - 1) ++ g.drop (pos+n.toNat):=by
   conv=>lhs;rw[<- List.take_append_drop (n.toNat - 1) (g.drop (pos+1))]
   rw[List.drop_drop,show pos+1+(n.toNat - 1)=pos+n.toNat from by omega]
  have hnot:∀ x∈(g.drop (pos+1)).take (n.toNat - 1),128<=(x.toNat:Int):=by
   intro x hx;obtain ⟨j,hj,rfl⟩:=List.getElem_of_mem hx;simp only[List.length_take,List.length_drop] at hj;have hbj:=hbytes (1+j) (by omega);rw[zbG,<- Nat.add_assoc,zbE g (pos+1+j) (by omega)] at hbj;simp only[List.getElem_take,List.getElem_drop];exact hbj
  have hsk:∀ iw sm,ini (g.drop (pos+1)) false iw sm=ini (g.drop (pos+n.toNat)) false iw sm:=by
   intro iw sm;rw[hsplit];exact zu0 _ _ iw sm (fun q=>by have:=hnot _ q;revert this;decide) (fun q=>by have:=hnot _ q;revert this;decide)
  rw[hcons] at hp ⊢;rw[zdN,if_neg hq,if_neg hq2,hp,hsk,hsk];rfl
theorem Tryz.infoRune:(Tryz.prog.info? 21).map (fun i=>(i.zero,i.size,i.bytes))=some (some (.int .i32 0),1,4):=by kernel_rfl
theorem zfD {w w':World} {base k:Nat} {e:TypeId} {size:Nat} {v:Value} {n:Nat} {xs:List Value} {o:Obj} (h:w.ownsRow base e size v n xs) (hg:(w.alloc o).grownBy w' v.ownBlock) (hk:k<base) (hb:base<=w.heap.size) :
  w'.heap[k]? = w.heap[k]? /\ base<=w'.heap.size/\Below base w w':=by
 have hB:Below base w w':=((Below.refl base w).alloc hb o).trans (zaI (h.alloc o) hg (by simp;omega));exact ⟨hB.block k hk,by have:=hB.size;omega,hB⟩
theorem zwG {w:World} {base:Nat} {e:TypeId} {size:Nat} {v:Value} {n:Nat} {xs:List Value} (h:w.ownsRow base e size v n xs) (k:Nat) (hk:k<base) (s:ByteArray) (pos:Nat):(w.iterAt k s pos).ownsRow base e size v n xs:=by
 obtain ⟨h1,h2⟩:=h;refine ⟨h1,?_⟩;rcases h2 with h2|⟨g,cap,cur,hv,hg,hh,r⟩
 ·exact Or.inl h2
 ·exact Or.inr ⟨g,cap,cur,hv,hg,by rw[Lib.iterAt_other _ _ _ _ _ (by omega)];exact hh,r⟩
theorem zrI (f g p s:Bs) (w:World) (hs:g.length<=10000000) :
  Calls Tryz.prog 135 #[zh2 f g p s] w fun e w'=>e=.returned (.string (bs (zb5 g)))/\Kept w w':=by
 obtain ⟨i0,hi,hz0,hz1,hz2⟩:=info_parts Tryz.infoRune;have HI:Hid (zb5 g=zdF [] ++ ini (g.drop 0) true false false):=(by show _=_;rw[zkE];simp [zdF]);go_enter Tryz.func135,Tryz.ntmps135;go_wp2_with fail
 try simp only[zeB]
 go_loopw [3,4,5] (fun v bg iw wr=>∃ (pos:Nat) (ns:List Int) (b i:Bool),pos<=g.length/\ns.length<=3 * pos/\bg=.bool b/\iw=.bool i/\wr.heap[w.heap.size+1]? = some (.stringIter (bs g) pos)/\wr.ownsRow (w.heap.size+2) 21 1 v ns.length (zbD ns)/\w.heap.size+2<=wr.heap.size/\Kept w wr/\Hid (zb5 g=zdF ns ++ ini (g.drop pos) b i (!ns.isEmpty))) (fun _ _ _ wr=>g.length - wr.iterPos (w.heap.size+1))
 case atStart=>exact ⟨0,[],true,false,Nat.zero_le _,Nat.le_refl _,rfl,rfl,by have:=World.iter_heap (w.alloc (.cells #[.string (bs f),.string (bs g),.string (bs p),.string (bs s)] 77)) (bs g) 0;simpa using this,World.ownsRow_nil _ _ _ _,by simp [World.iter],(zaA _ _).trans (zaA _ _),HI⟩
 case round =>
  obtain ⟨pos,ns,b,i,hp,hnl,rfl,rfl,hit,hown,hsz,hk,HA⟩:=hrel;have hip:wr.iterPos (w.heap.size+1)=pos:=(by simp [World.iterPos,hit]);by_cases hlt:pos<g.length
  ·have nx:=fun ty=>zc1 (P:=Tryz.prog) wr (w.heap.size+1) (bs g) pos ty hit hlt;obtain ⟨c,n,hd⟩:∃ c n,dec (bs g) pos=(c,n):=⟨(dec (bs g) pos).1,(dec (bs g) pos).2,rfl⟩;have hb:=za7 (bs g) pos hlt;have hst:=zCd g pos hlt c n hd b i (!ns.isEmpty);rw[hd] at nx hb;simp only[zeC] at nx hb;obtain ⟨b1,b2,b3,b4,b5⟩:=hb;obtain ⟨n,rfl⟩:∃ n':Nat,n=n':=⟨n.toNat,by omega⟩;simp only[Int.toNat_natCast] at nx hst;have HIT:Hid ((wr.iterAt (w.heap.size+1) (bs g) (pos+n)).heap[w.heap.size+1]? = some (.stringIter (bs g) (pos+n))):=Lib.iterAt_heap wr (w.heap.size+1) (bs g) pos (pos+n) hit;have HK2:Hid (Kept w (wr.iterAt (w.heap.size+1) (bs g) (pos+n))):=Lib.below_iterAt hk (by omega) (bs g) _;have HO2:=Hd (zwG hown (w.heap.size+1) (by omega) (bs g) (pos+n));have hsz2:w.heap.size+2<=(wr.iterAt (w.heap.size+1) (bs g) (pos+n)).heap.size:=(by rw[Lib.iterAt_size];exact hsz);have HIP:=Hd hip;clear hip hk hown hd hit;generalize wr.iterAt (w.heap.size+1) (bs g) (pos+n)=wq at *;have HIQ:Hid (wq.iterPos (w.heap.size+1)=pos+n):=(by show _=_;have:=HIT.out;simp [World.iterPos,this]);have hpn:pos+n<=g.length:=(by omega);rcases hst with ⟨rfl,h1,hst⟩|⟨rfl,h1,hst⟩|⟨h1,h2,hst⟩
   ·have HST:=Hd hst;obtain rfl:n=1:=(by omega);clear hst h1;go_wp2_with fail;go_roundw
    case rel=>exact ⟨pos+1,ns,true,false,by omega,by omega,rfl,rfl,HIT.out,HO2.out,hsz2,HK2.out,by show _=_;rw[HA.out,HST.out]⟩
    case measure=>rw[HIP.out,HIQ.out];omega
   ·have HST:=Hd hst;obtain rfl:n=1:=(by omega);clear hst h1;go_wp2_with fail;go_roundw
    case rel=>exact ⟨pos+1,ns,true,i,by omega,by omega,rfl,rfl,HIT.out,HO2.out,hsz2,HK2.out,by show _=_;rw[HA.out,HST.out]⟩
    case measure=>rw[HIP.out,HIQ.out];omega
   ·have t1:(c == 32)=false:=(by simpa using h1);have t2:(c == 45)=false:=(by simpa using h2);have HST:=Hd hst;clear hst h1 h2;cases b
    ·go_wp2_with fail;go_roundw
     case rel=>exact ⟨pos+n,ns,false,i,by omega,by omega,rfl,rfl,HIT.out,HO2.out,hsz2,HK2.out,by show _=_;rw[HA.out,HST.out];rfl⟩
     case measure=>rw[HIP.out,HIQ.out];omega
    ·have hown:=HO2.out;clear HO2;have HNE:Hid (∀ x y z:Int,(ns ++ [x,y,z]).isEmpty=false):=(by intro x y z;cases ns <;> rfl);obtain ⟨av,cv,hv,q1,q2,_⟩:=zaV hown;subst hv;cases i
     ·by_cases hns:ns=[]
      ·subst hns;simp only[List.length_nil,zbD,List.map_nil] at hown hnl;go_wp2_with (at_builtin;refine wpList_append_own _ rfl _ _ 151 rfl (w.heap.size+2) 21 i0 (.int .i32 0) 1 4 Tryz.underlying151 hi hz0 hz1 hz2 rfl (by decide) _ _ _ rfl (hown.alloc _) ⟨wq.heap.size,0,none⟩ 2 2 [.int .i32 c,.int .i32 46] rfl rfl (by exact za0 _ #[.int .i32 c,.int .i32 46] _ _ (by simp)) (by intro u hu;simp at hu;first|(subst hu;rfl)|(rcases hu with rfl|rfl <;> rfl)) (by unfold maxLen;first|omega|(simp;omega)) (by first|omega|(simp;omega)) (by first|omega|(simp;omega)) ?_);intro v2 w3 hown2 hgrow _;obtain ⟨r1,hown2z,r3⟩:=zfD (k:=w.heap.size+1) hown hgrow (by omega) (by omega);have HIT2:=Hd (r1.trans HIT.out);have HB2:=Hd r3;have HOX:Hid (w3.ownsRow (w.heap.size+2) 21 1 v2 ([c,46]:List Int).length (zbD [c,46])):=(by show World.ownsRow _ _ _ _ _ _ _;simpa [zbD] using hown2);clear hown2 hgrow r1 r3 hown;go_wp2_with fail;go_roundw
       case rel=>exact ⟨pos+n,[c,46],false,true,by omega,by simp;omega,rfl,rfl,HIT2.out,HOX.out,hown2z,HK2.out.trans' (HB2.out.mono (by omega)),by show _=_;rw[HA.out,HST.out];simp [zz3,zdF,show zgS 46=[46] from rfl]⟩
       case measure=>rw[HIP.out,show w3.iterPos (w.heap.size+1)=pos+n from by have:=HIT2.out;simp [World.iterPos,this]];omega
      ·have hpos:0<ns.length:=List.length_pos_iff.2 hns;have hne:ns.isEmpty=false:=(by simpa using hns);go_wp2_with (at_builtin;refine wpList_append_own _ rfl _ _ 151 rfl (w.heap.size+2) 21 i0 (.int .i32 0) 1 4 Tryz.underlying151 hi hz0 hz1 hz2 rfl (by decide) _ _ _ rfl (hown.alloc _) ⟨wq.heap.size,0,none⟩ 1 1 [.int .i32 32] rfl rfl (by exact za0 _ #[.int .i32 32] _ _ (by simp)) (by intro u hu;simp at hu;first|(subst hu;rfl)|(rcases hu with rfl|rfl <;> rfl)) (by unfold maxLen;first|omega|(simp;omega)) (by first|omega|(simp;omega)) (by first|omega|(simp;omega)) ?_);intro v1 w2 hown1 hgrow _;obtain ⟨r1,hown1z,r3⟩:=zfD (k:=w.heap.size+1) hown hgrow (by omega) (by omega);rw[show zbD ns ++ [Value.int .i32 32]=zbD (ns ++ [32]) from by simp [zbD]] at hown1;have HIT1:=Hd (r1.trans HIT.out);have HB1:=Hd r3;have HO1:Hid (w2.ownsRow (w.heap.size+2) 21 1 v1 (ns ++ [32]).length (zbD (ns ++ [32]))):=(by show World.ownsRow _ _ _ _ _ _ _;simpa using hown1);clear hown1 hgrow r1 r3 hown;have hown1:=HO1.out;go_wp2_with (at_builtin;refine wpList_append_own _ rfl _ _ 151 rfl (w.heap.size+2) 21 i0 (.int .i32 0) 1 4 Tryz.underlying151 hi hz0 hz1 hz2 rfl (by decide) _ _ _ rfl (hown1.alloc _) ⟨w2.heap.size,0,none⟩ 2 2 [.int .i32 c,.int .i32 46] rfl rfl (by exact za0 _ #[.int .i32 c,.int .i32 46] _ _ (by simp)) (by intro u hu;simp at hu;first|(subst hu;rfl)|(rcases hu with rfl|rfl <;> rfl)) (by unfold maxLen;first|omega|(simp;omega)) (by first|omega|(simp;omega)) (by first|omega|(simp;omega)) ?_);intro v2 w3 hown2 hgrow _;obtain ⟨r1,hown2z,r3⟩:=zfD (k:=w.heap.size+1) hown1 hgrow (by omega) (by omega);have HIT2:=Hd (r1.trans HIT1.out);have HB2:=Hd r3;have HOX:Hid (w3.ownsRow (w.heap.size+2) 21 1 v2 ((ns ++ [32]) ++ [c,46]).length (zbD ((ns ++ [32]) ++ [c,46]))):=(by show World.ownsRow _ _ _ _ _ _ _;simpa [zbD] using hown2);clear hown2 hgrow r1 r3 hown1;go_wp2_with fail;go_roundw
       case rel=>exact ⟨pos+n,(ns ++ [32]) ++ [c,46],false,true,by omega,by simp;omega,rfl,rfl,HIT2.out,HOX.out,hown2z,HK2.out.trans' ((HB1.out.trans HB2.out).mono (by omega)),by show _=_;rw[HA.out,HST.out,zn8,zmA];simp [zz3,HNE.out,hne,show zgS 32=[32] from rfl,show zgS 46=[46] from rfl]⟩
       case measure=>rw[HIP.out,show w3.iterPos (w.heap.size+1)=pos+n from by have:=HIT2.out;simp [World.iterPos,this]];omega
     ·obtain ⟨sm,hsm⟩:∃ sm,(!ns.isEmpty)=sm:=⟨_,rfl⟩;go_wp2_with (at_builtin;refine wpList_append_own _ rfl _ _ 151 rfl (w.heap.size+2) 21 i0 (.int .i32 0) 1 4 Tryz.underlying151 hi hz0 hz1 hz2 rfl (by decide) _ _ _ rfl (hown.alloc _) ⟨wq.heap.size,0,none⟩ 1 1 [.int .i32 45] rfl rfl (by exact za0 _ #[.int .i32 45] _ _ (by simp)) (by intro u hu;simp at hu;first|(subst hu;rfl)|(rcases hu with rfl|rfl <;> rfl)) (by unfold maxLen;first|omega|(simp;omega)) (by first|omega|(simp;omega)) (by first|omega|(simp;omega)) ?_);intro v1 w2 hown1 hgrow _;obtain ⟨r1,hown1z,r3⟩:=zfD (k:=w.heap.size+1) hown hgrow (by omega) (by omega);rw[show zbD ns ++ [Value.int .i32 45]=zbD (ns ++ [45]) from by simp [zbD]] at hown1;have HIT1:=Hd (r1.trans HIT.out);have HB1:=Hd r3;have HO1:Hid (w2.ownsRow (w.heap.size+2) 21 1 v1 (ns ++ [45]).length (zbD (ns ++ [45]))):=(by show World.ownsRow _ _ _ _ _ _ _;simpa using hown1);clear hown1 hgrow r1 r3 hown;have hown1:=HO1.out;go_wp2_with (at_builtin;refine wpList_append_own _ rfl _ _ 151 rfl (w.heap.size+2) 21 i0 (.int .i32 0) 1 4 Tryz.underlying151 hi hz0 hz1 hz2 rfl (by decide) _ _ _ rfl (hown1.alloc _) ⟨w2.heap.size,0,none⟩ 2 2 [.int .i32 c,.int .i32 46] rfl rfl (by exact za0 _ #[.int .i32 c,.int .i32 46] _ _ (by simp)) (by intro u hu;simp at hu;first|(subst hu;rfl)|(rcases hu with rfl|rfl <;> rfl)) (by unfold maxLen;first|omega|(simp;omega)) (by first|omega|(simp;omega)) (by first|omega|(simp;omega)) ?_);intro v2 w3 hown2 hgrow _;obtain ⟨r1,hown2z,r3⟩:=zfD (k:=w.heap.size+1) hown1 hgrow (by omega) (by omega);have HIT2:=Hd (r1.trans HIT1.out);have HB2:=Hd r3;have HOX:Hid (w3.ownsRow (w.heap.size+2) 21 1 v2 ((ns ++ [45]) ++ [c,46]).length (zbD ((ns ++ [45]) ++ [c,46]))):=(by show World.ownsRow _ _ _ _ _ _ _;simpa [zbD] using hown2);clear hown2 hgrow r1 r3 hown1;go_wp2_with fail;go_roundw
      case rel=>exact ⟨pos+n,(ns ++ [45]) ++ [c,46],false,true,by omega,by simp;omega,rfl,rfl,HIT2.out,HOX.out,hown2z,HK2.out.trans' ((HB1.out.trans HB2.out).mono (by omega)),by show _=_;rw[HA.out,HST.out,zn8,zmA];simp [zz3,HNE.out,show zgS 45=[45] from rfl,show zgS 46=[46] from rfl]⟩
      case measure=>rw[HIP.out,show w3.iterPos (w.heap.size+1)=pos+n from by have:=HIT2.out;simp [World.iterPos,this]];omega
  ·have nx:=fun ty=>zbR (P:=Tryz.prog) wr (w.heap.size+1) (bs g) pos ty hit hlt;have cv:=zz7 wr _ _ ns hown;have HK:=Hd hk;clear hk;go_wp2_with fail;go_ret;exact ⟨zc6 (by rw[HA.out,List.drop_of_length_le (by omega)];simp [ini]),HK.out⟩
def zkR (l:Bs):List Value:=l.map fun b=>.int .u8 (b.toNat:Int)
def BytesPost (l:Bs) (w:World) (e:Ending) (w':World):Prop:=e=.returned (.slice (some ⟨w.heap.size,0,none⟩) l.length l.length)/\w'=w.alloc (.cells (zkR l).toArray 5)
theorem znH (n:Int) (h:0<=n/\n<256):IntKind.u8.wrap n=n:=by
 have:IntKind.u8.bits=8:=rfl;unfold IntKind.wrap;simp [this,IntKind.signed];omega
theorem zpI (c:Nat) (h:c<=1114111/\¬ (55296<=c/\c<=57343)):zgS c=if c<128 then [UInt8.ofNat c] else if c<2048 then [UInt8.ofNat (192+c / 64),UInt8.ofNat (128+c % 64)]
  else if c<65536 then [UInt8.ofNat (224+c / 4096),UInt8.ofNat (128+c / 64 % 64),UInt8.ofNat (128+c % 64)]
  else [UInt8.ofNat (240+c / 262144),UInt8.ofNat (128+c / 4096 % 64),UInt8.ofNat (128+c / 64 % 64),UInt8.ofNat (128+c % 64)]:=by
 have hv:Utf8.valid (c:Int)=true:=by
  unfold Utf8.valid;simp only[Bool.or_eq_true,Bool.and_eq_true,decide_eq_true_eq];omega
 unfold zgS Utf8.encode;simp only[hv,if_true,Int.toNat_natCast];by_cases h1:c<128
 ·rw[if_pos h1,if_pos h1]
 rw[if_neg h1,if_neg h1];by_cases h2:c<2048
 ·rw[if_pos h2,if_pos h2]
 rw[if_neg h2,if_neg h2];by_cases h3:c<65536
 ·rw[if_pos h3,if_pos h3]
 rw[if_neg h3,if_neg h3]
theorem ztG (n:Nat) (h:n<256):((UInt8.ofNat n).toNat:Int)=(n:Int):=by rw[UInt8.toNat_ofNat',Nat.mod_eq_of_lt h]
theorem zeO {l:Bs} {w w':World} {e:Ending} {cs:Array Value} (n:Nat) (hl:l.length=n) (hc:(zkR l).toArray=cs) (he:e=.returned (.slice (some ⟨w.heap.size,0,none⟩) n n)) (hw:w'=w.alloc (.cells cs 5)):BytesPost l w e w':=by
 subst hl hc;exact ⟨he,hw⟩
theorem zFN (c:Int) (h0:0<=c) (g:c<128):zgS c=[UInt8.ofNat c.toNat]:=by
 obtain ⟨n,rfl⟩:∃ n:Nat,c=n:=⟨c.toNat,by omega⟩;rw[zpI n (by omega),if_pos (by omega),Int.toNat_natCast]
theorem zFO (c:Int) (h0:128<=c) (g:c<2048):zgS c=[UInt8.ofNat (192+c / 64).toNat,UInt8.ofNat (128+c % 64).toNat]:=by
 obtain ⟨n,rfl⟩:∃ n:Nat,c=n:=⟨c.toNat,by omega⟩;rw[zpI n (by omega),if_neg (by omega),if_pos (by omega)];have e1:(192+(n:Int) / 64).toNat=192+n / 64:=(by omega);have e2:(128+(n:Int) % 64).toNat=128+n % 64:=(by omega);rw[e1,e2]
theorem zFP (c:Int) (h0:2048<=c) (g:c<65536) (h2:c<55296\/57343<c):zgS c=[UInt8.ofNat (224+c / 4096).toNat,UInt8.ofNat (128+c / 64 % 64).toNat,UInt8.ofNat (128+c % 64).toNat]:=by
 obtain ⟨n,rfl⟩:∃ n:Nat,c=n:=⟨c.toNat,by omega⟩;rw[zpI n (by omega),if_neg (by omega),if_neg (by omega),if_pos (by omega)];have e0:(224+(n:Int) / 4096).toNat=224+n / 4096:=(by omega);have e1:(128+(n:Int) / 64 % 64).toNat=128+n / 64 % 64:=(by omega);have e2:(128+(n:Int) % 64).toNat=128+n % 64:=(by omega);rw[e0,e1,e2]
theorem zFQ (c:Int) (h0:65536<=c) (g:c<=1114111):zgS c=[UInt8.ofNat (240+c / 262144).toNat,UInt8.ofNat (128+c / 4096 % 64).toNat,UInt8.ofNat (128+c / 64 % 64).toNat,UInt8.ofNat (128+c % 64).toNat]:=by
 obtain ⟨n,rfl⟩:∃ n:Nat,c=n:=⟨c.toNat,by omega⟩;rw[zpI n (by omega),if_neg (by omega),if_neg (by omega),if_neg (by omega)];have e0:(240+(n:Int) / 262144).toNat=240+n / 262144:=(by omega);have e3:(128+(n:Int) / 4096 % 64).toNat=128+n / 4096 % 64:=(by omega);have e1:(128+(n:Int) / 64 % 64).toNat=128+n / 64 % 64:=(by omega);have e2:(128+(n:Int) % 64).toNat=128+n % 64:=(by omega);rw[e0,e1,e2,e3]
theorem znI (c:Int) (h:0<=c/\c<256):((UInt8.ofNat c.toNat).toNat:Int)=c:=by
 rw[ztG _ (by omega)];omega
theorem zrJ (c:Int) (w:World) (h0:0<=c) (h1:c<=1114111) (h2:c<55296\/57343<c):Calls Tryz.prog 270 #[.int .i64 c] w (BytesPost (zgS c) w):=by
 by_cases g1:c<128
 ·have HE:=Hd (zFN c h0 g1);have HN:=Hd (znI c (by omega));have hw:=znH c (by omega);go_enter Tryz.func270,Tryz.ntmps270;go_wp2_with fail;go_ret;refine zeO 1 (by rw[HE.out];rfl) ?_ rfl rfl;rw[HE.out];simp only[zkR,List.map_cons,List.map_nil,HN.out]
 by_cases g2:c<2048
 ·have HE:=Hd (zFO c (by omega) g2);have HN:=Hd (znI (192+c / 64) (by omega));have HM:=Hd (znI (128+c % 64) (by omega));have hw:=znH (192+c / 64) (by omega);have hw2:=znH (128+c % 64) (by omega);go_enter Tryz.func270,Tryz.ntmps270;go_wp2_with fail;go_ret;refine zeO 2 (by rw[HE.out];rfl) ?_ rfl rfl;rw[HE.out];simp only[zkR,List.map_cons,List.map_nil,HN.out,HM.out]
 by_cases g3:c<65536
 ·have HE:=Hd (zFP c (by omega) g3 h2);have HN:=Hd (znI (224+c / 4096) (by omega));have HP:=Hd (znI (128+c / 64 % 64) (by omega));have HM:=Hd (znI (128+c % 64) (by omega));have hw:=znH (224+c / 4096) (by omega);have hw1:=znH (128+c / 64 % 64) (by omega);have hw2:=znH (128+c % 64) (by omega);go_enter Tryz.func270,Tryz.ntmps270;go_wp2_with fail
  all_goals
   go_ret;refine zeO 3 (by rw[HE.out];rfl) ?_ rfl rfl;rw[HE.out];simp only[zkR,List.map_cons,List.map_nil,HN.out,HM.out,HP.out]
 ·have HE:=Hd (zFQ c (by omega) h1);have HN:=Hd (znI (240+c / 262144) (by omega));have HQ:=Hd (znI (128+c / 4096 % 64) (by omega));have HP:=Hd (znI (128+c / 64 % 64) (by omega));have HM:=Hd (znI (128+c % 64) (by omega));have hw:=znH (240+c / 262144) (by omega);have hw0:=znH (128+c / 4096 % 64) (by omega);have hw1:=znH (128+c / 64 % 64) (by omega);have hw2:=znH (128+c % 64) (by omega);go_enter Tryz.func270,Tryz.ntmps270;go_wp2_with fail
  all_goals
   go_ret;refine zeO 4 (by rw[HE.out];rfl) ?_ rfl rfl;rw[HE.out];simp only[zkR,List.map_cons,List.map_nil,HN.out,HM.out,HP.out,HQ.out]
theorem zk4 (c:Int):(zgS c).length<=4:=by have:=encode_size_le c;exact this
theorem zmC (s:ByteArray) (i:Nat):0<=(dec s i).1/\(dec s i).1<=1114111/\((dec s i).1<55296\/57343<(dec s i).1):=by
 have h0:=zaL s i;have m0:∀ k l h,¬ zaH s k l h<0->128<=l->l - 128<=zaH s k l h/\zaH s k l h<=h - 128:=by
  intro k l h q hl;obtain ⟨_,h1,h2,h3⟩:=zgQ (s:=s) (i:=k) (l:=l) (h:=h) (by omega);omega
 unfold dec
 split
 ·simp only;omega
 split
 ·split
  ·rename_i q;have:=m0 (i+1) 128 191 (by omega) (by omega);simp only;omega
  ·simp only;omega
 split
 ·rename_i hb;unfold zhI
  split
  ·simp only;omega
  ·rename_i q;simp only[not_or] at q;have a:=m0 (i+1) (zfP (zaC s i)) (zc3 (zaC s i)) q.1 (by unfold zfP;split <;> omega);have b:=m0 (i+2) 128 191 q.2 (by omega);have c:zc3 (zaC s i)<=191/\(zaC s i=237->zc3 (zaC s i)=159):=(by unfold zc3;split <;> omega);have d:128<=zfP (zaC s i):=(by unfold zfP;split <;> omega);simp only;omega
 split
 ·rename_i hb;unfold zsU
  split
  ·simp only;omega
  ·rename_i q;simp only[not_or] at q;have a:=m0 (i+1) (zfI (zaC s i)) (zc4 (zaC s i)) q.1 (by unfold zfI;split <;> omega);have b:=m0 (i+2) 128 191 q.2.1 (by omega);have b2:=m0 (i+3) 128 191 q.2.2 (by omega);have c:zc4 (zaC s i)<=191/\(zaC s i=244->zc4 (zaC s i)=143):=(by unfold zc4;split <;> omega);have d:128<=zfI (zaC s i)/\(zaC s i=240->zfI (zaC s i)=144):=(by unfold zfI;split <;> omega);simp only;omega
 ·simp only;omega
theorem zwH (w:World) (l:Bs) (n:Nat) (hn:n=l.length):(convert 120 9 (.slice (some ⟨w.heap.size,0,none⟩) n n)).run Tryz.prog (w.alloc (.cells (zkR l).toArray 5))=.ok (.string (bs l)) (w.alloc (.cells (zkR l).toArray 5)):=by
 subst hn;refine run_convert_bytes_back (P:=Tryz.prog) (w.alloc (.cells (zkR l).toArray 5)) 120 9 5 ⟨w.heap.size,0,none⟩ l.length l Tryz.underlying120 Tryz.underlying5 Tryz.underlying9 ?_;intro j hj;exact za0 w (zkR l).toArray 5 w.heap.size rfl j _ (by simp [zkR,List.getElem?_eq_getElem hj])
theorem zmD (s:Bs) (c:Int) (w:World) (hs:s.length<=1000000000) (h0:0<=c) (h1:c<=1114111) (h2:c<55296\/57343<c) :
  Calls Tryz.prog 238 #[.string (bs s),.int .i64 c] w fun e w'=>e=.returned (.string (bs (s ++ zgS c)))/\Kept w w':=by
 have HB:=Hd (fun w=>zrJ c w h0 h1 h2);unfold BytesPost at HB;have hl:=zk4 c;have HC:=Hd (fun w=>zwH w (zgS c) (zgS c).length rfl);generalize zgS c=x at *;go_enter Tryz.func238,Tryz.ntmps238;go_wp2_with fail;refine (HB.out _).mono ?_;rintro e w1 ⟨rfl,rfl⟩;have hc:=HC.out w;generalize (zkR x).toArray=xs at *;go_wp2_with fail;go_ret;exact ⟨rfl,zaA _ _⟩
end Go.Proofs.YtmcoomlkbgiboaaGreatDoor
