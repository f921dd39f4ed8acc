/- Elements of a row that a call owns: stored anew and loaded; one operation of a region that draws its order, as a list of one. No condition. -/
import Derived.Test.YtmcoomlkbgiboaaGreatDoorU23
import Derived.Test.YtmcoomlkbgiboaaGreatDoorU21
import Derived.Test.YtmcoomlkbgiboaaGreatDoorU20
import Derived.Test.YtmcoomlkbgiboaaGreatDoorU22
import Derived.Test.YtmcoomlkbgiboaaGreatDoorU15
import Derived.Lib.SliceRun
set_option linter.all false
set_option maxRecDepth 100000
set_option maxHeartbeats 1600000
namespace Go.Proofs.YtmcoomlkbgiboaaGreatDoor
open Go.RowKit
def QK (Q:Exit->Act->World->Prop) (K:Act->World->Prop):Exit->Act->World->Prop
 | .normal,a,w=>K a w
 | e,a,w=>Q e a w
theorem zlY {P:Program} {ops:Array Oper} {Q:Exit->Act->World->Prop} {i:Nat} {o:Oper} {K:Act->World->Prop} {a:Act} {w:World} (ho:ops[i]? = some o) (h:wpList P ops (QK Q K) [o] a w):wpOp P ops Q i K a w:=by
 unfold wpOp;simp only[ho];unfold wpList at h;have hK:wpList P ops (QK Q K) []=K:=(by funext a w;rfl);rw[hK] at h;have hu:∀ r,o.upon P a K (QK Q K) r->o.upon P a K Q r:=by
  intro r hr;unfold Oper.upon at hr ⊢;revert hr
  split <;> exact fun h=>h
 split
 ·rename_i hw;rw[if_pos hw] at h;rcases h with h|⟨h1,h2⟩
  ·exact .inl (hu _ h)
  ·exact .inr ⟨h1,h2⟩
 ·rename_i hw;rw[if_neg hw] at h;exact h
theorem zBG {w:World} {base g n cap size:Nat} {e:TypeId} {xs:List Value} (h:w.ownsRow base e size (.slice (some ⟨g,0,none⟩) n cap) n xs) (o:Nat) (vs:List Value) (ho:o+vs.length<=n * size) :
  (w.setCells g o vs).ownsRow base e size (.slice (some ⟨g,0,none⟩) n cap) n (xs.take o ++ (vs ++ xs.drop (o+vs.length))):=by
 obtain ⟨hl,h⟩:=h;refine ⟨by rw[List.length_append,List.length_append,List.length_take,List.length_drop];omega,?_⟩;rcases h with ⟨hv,_⟩|⟨g',cap',cur,hv,hb,hg,hn,hm,hs,hx⟩
 ·cases hv
 ·obtain ⟨e1,_,e3⟩:=Value.slice.inj hv;obtain rfl:g=g':=(by cases e1;rfl);subst e3;have hsz:n * size<=cap * size:=Nat.mul_le_mul_right _ hn;refine .inr ⟨g,cap,_,rfl,hb,zt1 (w:=w) (R:=g) (ty:=e) (old:=cur) hg o vs (by omega),hn,hm,?_,?_⟩
  ·unfold zEj;rw[List.size_toArray,List.length_append,List.length_append,List.length_take,List.length_drop,Array.length_toList];omega
  ·unfold zEj;have hll:cur.toList.length=cur.size:=Array.length_toList;show List.take (n * size) (cur.toList.take o ++ (vs ++ cur.toList.drop (o+vs.length)))=_;rw[<- hx,List.take_append,List.take_take,List.take_append,List.length_take,Nat.min_eq_left (show o<=cur.toList.length by omega),List.take_take,Nat.min_eq_right (show o<=n * size by omega),Nat.min_eq_left (show o<=n * size by omega),List.take_of_length_le (show vs.length<=n * size - o by omega),List.drop_take];rw[show n * size - o - vs.length=n * size - (o+vs.length) by omega]
theorem zt8 {k:Nat}:∀ (css:List (List Value)),(∀ cs∈css,cs.length=k)->∀ (j:Nat) (cs:List Value),j<css.length->cs.length=k ->
  (css.set j cs).flatten=css.flatten.take (j * k) ++ (cs ++ css.flatten.drop (j * k+cs.length))
 | [],_,_,_,h,_=>by cases h
 | c :: css,hl,0,cs,_,hc=>by
  have:=hl c (by simp);rw[List.set_cons_zero,List.flatten_cons,List.flatten_cons,Nat.zero_mul,List.take_zero,List.nil_append,Nat.zero_add,hc,<- this,List.drop_left]
 | c :: css,hl,j+1,cs,h,hc=>by
  have hk:=hl c (by simp);have ih:=zt8 css (fun x hx=>hl x (List.mem_cons_of_mem _ hx)) j cs (by simpa using h) hc;have a1:(c ++ css.flatten).take ((j+1) * k)=c ++ css.flatten.take (j * k):=by
   rw[show (j+1) * k=c.length+j * k by rw[hk,Nat.succ_mul];omega,List.take_length_add_append]
  have a2:(c ++ css.flatten).drop ((j+1) * k+cs.length)=css.flatten.drop (j * k+cs.length):=by
   rw[show (j+1) * k+cs.length=c.length+(j * k+cs.length) by rw[hk,Nat.succ_mul];omega,List.drop_length_add_append]
  rw[List.set_cons_succ,List.flatten_cons,List.flatten_cons,ih,a1,a2,List.append_assoc]
section
variable {α:Type} {R:(Nat->Prop)->World->List Value->α->Prop} {k:Nat} {A:Nat->Prop} {base:Nat} {e:TypeId} {w w':World} {v:Value} {xs:List α}
theorem OutG.at_ {a:Option Addr} {n cap:Nat} (h:OutG R k A base e w (.slice a n cap) xs) (j:Nat) (x:α) (hx:xs[j]? = some x):∃ g cs,a=some ⟨g,0,none⟩/\base<=g/\g<w.heap.size/\n=xs.length/\xs.length<=cap/\cs.length=k/\(∀ i u,cs[i]? = some u->w.cell? ⟨g,j * k+i,none⟩=some u)/\R (fun g'=>A g'/\g≠g') w cs x:=by
 obtain ⟨css,h1,h2,ho,h4⟩:=h;obtain ⟨a',c,hv,hc,_,h3⟩:=za1 ho;obtain ⟨rfl,rfl,rfl⟩:=Value.slice.inj hv;have hj:=(List.getElem?_eq_some_iff.1 hx).1;obtain ⟨g,rfl,hb,hg,hcell⟩:=h3 (by omega);have hcs:css[j]? = some (css[j]'(by omega)):=List.getElem?_eq_getElem (by omega);have hr:=h4 j _ x hcs hx;have hR:R (fun g'=>A g'/\g≠g') w (css[j]'(by omega)) x:=by
  have e1:(fun g'=>A g'/\(Value.slice (some ⟨g,0,none⟩) xs.length cap).ownBlock≠some g')=(fun g'=>A g'/\g≠g'):=by
   funext g';simp [Value.ownBlock]
  rw[<- e1];exact hr
 exact ⟨g,_,rfl,hb,hg,rfl,hc,h2 _ (List.getElem_mem _),fun i u hu=>hcell _ u (zoW css h2 j _ hcs i u hu),hR⟩
theorem OutG.put {g n cap:Nat} (hR:ReadK R) (h:OutG R k A base e w (.slice (some ⟨g,0,none⟩) n cap) xs) (j:Nat) (hj:j<xs.length) (cs:List Value) (y:α) (hc:cs.length=k) (hy:R (fun g'=>A g'/\g≠g') w cs y) :
  OutG R k A base e (w.setCells g (j * k) cs) (.slice (some ⟨g,0,none⟩) n cap) (xs.set j y):=by
 obtain ⟨css,h1,h2,ho,h4⟩:=h;have hn:n=xs.length:=by
  obtain ⟨a',c,hv,_⟩:=za1 ho;exact (Value.slice.inj hv).2.1
 subst hn;have hl:j * k+cs.length<=xs.length * k:=by
  have:(j+1) * k<=xs.length * k:=Nat.mul_le_mul_right _ hj;rw[Nat.succ_mul] at this;omega
 have hsam:Sam (fun g'=>A g'/\g≠g') w (w.setCells g (j * k) cs):=Sam.only (zc1 cs (j * k) w) (fun g' _ hs q=>hs.2 q.symm);have e1:∀ c,(fun g'=>A g'/\(Value.slice (some ⟨g,0,none⟩) c cap).ownBlock≠some g')=(fun g'=>A g'/\g≠g'):=by
  intro c;funext g';simp [Value.ownBlock]
 refine ⟨css.set j cs,by simp [h1],fun c hcs=>?_,?_,fun i c x hci hx=>?_⟩
 ·rcases List.mem_or_eq_of_mem_set hcs with q|q
  ·exact h2 c q
  ·rw[q];exact hc
 ·rw[zt8 css h2 j cs (by omega) hc,List.length_set];exact zBG ho (j * k) cs hl
 ·rw[e1];by_cases q:j=i
  ·subst q;rw[List.getElem?_set_self (by omega)] at hci;rw[List.getElem?_set_self hj] at hx;cases hci;cases hx;exact hR.sam hy hsam (fun _ _ h=>h)
  ·rw[List.getElem?_set_ne q] at hci hx;have:=h4 i c x hci hx;rw[e1] at this;exact hR.sam this hsam (fun _ _ h=>h)
theorem OutG.there {g n cap:Nat} (h:OutG R k A base e w (.slice (some ⟨g,0,none⟩) n cap) xs) (j:Nat) (hj:j<xs.length):w.there g (j * k) k:=by
 obtain ⟨css,h1,h2,ho,h4⟩:=h;obtain ⟨hl,h⟩:=ho;rcases h with ⟨hv,_⟩|⟨g',cap',cur,hv,hb,hg,hn,hm,hs,hx⟩
 ·cases hv
 ·obtain ⟨e1,e2,e3⟩:=Value.slice.inj hv;obtain rfl:g=g':=(by cases e1;rfl);have hB:Blk w g e cur:=hg;have h1:(j+1) * k<=cap' * k:=Nat.mul_le_mul_right _ (by omega);rw[Nat.succ_mul] at h1;exact fun i hi=>⟨by rw[hB.cell (j * k+i) (cur[j * k+i]'(by omega)) (by rw[Array.getElem?_eq_getElem])];rfl,hB.free _⟩
theorem zkF {P:Program} (hR:ReadK R) {ops:Array Oper} {rest:List Oper} {o:Oper} {a:Act} {Q:Exit->Act->World->Prop} (hgd:o.guard=none) (x y:Operand) (ho:o.op=.store e x y)
  {g n cap:Nat} (h0:OutG R k A base e w (.slice (some ⟨g,0,none⟩) n cap) xs) (j:Nat) (hj:j<xs.length) (cs:List Value) (z:α) (hx:a.eval x=.pointer (some ⟨g,j * k,none⟩)) (hy:a.eval y=.agg cs.toArray) (hc:cs.length=k) (hi:(P.info? e).map (·.size)=some k)
  (hz:R (fun g'=>A g'/\g≠g') w cs z)
  (h:∀ w',OutG R k A base e w' (.slice (some ⟨g,0,none⟩) n cap) (xs.set j z)->Only (fun i=>i=g) w w'->wpList P ops Q rest (a.put o.dst undef) w'):wpList P ops Q (o :: rest) a w:=by
 have ht:=h0.there j hj;refine wpList_store_mid hgd e x y ho g (j * k) cs.toArray hx hy ?_ ?_ (all_oneCell_toArray (hR.one hz)) (h _ ?_ ?_)
 ·rw[List.size_toArray,hc];exact ht
 ·rw[List.size_toArray,hc];exact hi
 ·exact OutG.put hR h0 j hj cs z hc hz
 ·exact zc1 _ _ _
end
def zFB (ps:List Pr) (k:Bs):Option Bs:=(ps.find? fun q=>q.1 == k).map (·.2)
mutual
def zgK:Inl->Bs
 | .mk kind text dest _ _ _ _ _ _ kids =>
  if kind=1\/kind=4\/kind=5 then text else if kind=2\/kind=3 then [32] else if 6<=kind/\kind<=11 then zaX kids else if kind=16 then dest else []
def zaX:List Inl->Bs
 | []=>[]
 | x :: xs=>zgK x ++ zaX xs
end
mutual
def zvW:Inl->List Inl
 | .mk kind text dest title id cls prs args cits kids=>.mk kind text dest title id cls prs args cits kids :: zb6 kids
def zb6:List Inl->List Inl
 | []=>[]
 | x :: xs=>zvW x ++ zb6 xs
end
mutual
def zvX:Blo->List Inl
 | .mk _ _ _ _ _ _ _ _ _ line kids=>zb6 line ++ zbW kids
def zbW:List Blo->List Inl
 | []=>[]
 | x :: xs=>zvX x ++ zbW xs
end
theorem zBH (x:Inl):zvW x=x :: zb6 x.kids:=by cases x;rfl
theorem zBI (b:Blo):zvX b=zb6 b.line ++ zbW b.kids:=by cases b;rfl
theorem zgL (x:Inl):zgK x=if x.kind=1\/x.kind=4\/x.kind=5 then x.text else if x.kind=2\/x.kind=3 then [32] else if 6<=x.kind/\x.kind<=11 then zaX x.kids else if x.kind=16 then x.dest else []:=by cases x;rfl
theorem zrA (xs ys:List Inl):zb6 (xs ++ ys)=zb6 xs ++ zb6 ys:=by
 induction xs with
 | nil=>rfl
 | cons x xs ih=>show zvW x ++ zb6 (xs ++ ys)=_;rw[ih];show _=(zvW x ++ zb6 xs) ++ _;rw[List.append_assoc]
theorem zfE (xs ys:List Inl):zaX (xs ++ ys)=zaX xs ++ zaX ys:=by
 induction xs with
 | nil=>rfl
 | cons x xs ih=>show zgK x ++ zaX (xs ++ ys)=_;rw[ih];show _=(zgK x ++ zaX xs) ++ _;rw[List.append_assoc]
theorem zrB (xs ys:List Blo):zbW (xs ++ ys)=zbW xs ++ zbW ys:=by
 induction xs with
 | nil=>rfl
 | cons x xs ih=>show zvX x ++ zbW (xs ++ ys)=_;rw[ih];show _=(zvX x ++ zbW xs) ++ _;rw[List.append_assoc]
theorem zgM {α:Type} {xs:List α} {k:Nat} {x:α} (h:xs[k]? = some x):xs.take (k+1)=xs.take k ++ [x]:=by
 obtain ⟨hk,rfl⟩:=List.getElem?_eq_some_iff.1 h;exact List.take_succ_eq_append_getElem hk
theorem Tryz.infoCit:(Tryz.prog.info? 68).map (fun i=>(i.zero,i.size,i.bytes))=some (some (.agg #[.string ⟨#[]⟩,.string ⟨#[]⟩,.string ⟨#[]⟩,.bool false]),4,56):=by kernel_rfl
def ClnP (e:TypeId) (k:Nat) (n:Nat) (news:List Value) (w:World) (en:Ending) (w':World):Prop:=∃ v',en=.returned v'/\w'.ownsRow w.heap.size e k v' n news/\Kept w w'
theorem zBJ (a:Option Addr) (n c:Nat) (news:List Value) (w:World) (hl:news.length=n * 1) (hn:n<=1100000) (hsrc:0<n->∃ g o,a=some ⟨g,o,none⟩/\∀ j u,news[j]? = some u->w.cell? ⟨g,o+j,none⟩=some u) (h1:∀ u∈news,u.oneCell'=true) (hg:∀ g o,a=some ⟨g,o,none⟩->0<n->g<w.heap.size) :
  Calls Tryz.prog 78 #[.slice a n c] w (ClnP 9 1 n news w):=by
 obtain ⟨i0,hi,hz0,hz1,hz2⟩:=info_parts Tryz.infoStr;have qT:∀ (w:World) (a:Option Addr) (n c n' c':Nat),(binOp .eql 29 (.slice a n c) (.slice none n' c')).run Tryz.prog w=.ok (.bool a.isNone) w:=fun w a n c n' c'=>Lib.run_eql_slice_nil w _ _ a n c n' c' Tryz.underlying29;unfold ClnP;cases a with
 | none =>
  obtain rfl:n=0:=by
   rcases Nat.eq_zero_or_pos n with q|q
   ·exact q
   ·obtain ⟨g,o,e,_⟩:=hsrc q;cases e
  obtain rfl:news=[]:=List.length_eq_zero_iff.1 (by omega);clear hsrc h1 hg;go_enter Tryz.func78,Tryz.ntmps78;go_wp2_with fail;go_ret;exact ⟨_,rfl,World.ownsRow_nil _ _ _ _,Kept.refl _⟩
 | some ad =>
  have HNEWS:Hid (∀ j u,news[j]? = some u->(w.alloc (.cells #[] 9)).cell? (ad.add j)=some u):=fun j u hu=>by
   have hj:=(List.getElem?_eq_some_iff.1 hu).1;have hq:0<n:=by
    rcases Nat.eq_zero_or_pos n with q|q
    ·rw[q] at hl;omega
    ·exact q
   obtain ⟨g,o,e,hc⟩:=hsrc hq;cases e;rw[zeI];exact ((zaA w (.cells #[] 9)).cell (p:=⟨g,o+j,none⟩) (hg g o rfl hq)).trans (hc j u hu)
  have HONE:=Hd h1;clear hsrc h1 hg;go_enter Tryz.func78,Tryz.ntmps78;go_wp2_with (at_builtin;refine wpList_append_own _ rfl _ _ 29 rfl w.heap.size 9 i0 (.string ⟨#[]⟩) 1 16 Tryz.underlying29 hi hz0 hz1 hz2 rfl (by decide) _ 0 [] rfl (World.ownsRow_made w #[] 0 (Nat.le_refl _) (by unfold maxLen;omega) (by simp)) ad n c news rfl hl HNEWS.out HONE.out ?_ ?_ ?_ ?_)
  ·unfold maxLen;omega
  ·omega
  ·simp
  intro v' w2 hown2 hgrow _;have HR:=Hd hown2;have HK:=Hd ((zaA w (.cells #[] 9)).trans' (zaG (World.ownsRow_made (size:=1) w #[] 0 (Nat.le_refl _) (by unfold maxLen;omega) (by simp)) hgrow (by simp)));clear hown2 hgrow;go_wp2_with fail;go_ret;exact ⟨_,rfl,by simpa using HR.out,HK.out⟩
theorem zBK (a:Option Addr) (n c:Nat) (news:List Value) (w:World) (hl:news.length=n * 2) (hn:n<=1100000) (hsrc:0<n->∃ g o,a=some ⟨g,o,none⟩/\∀ j u,news[j]? = some u->w.cell? ⟨g,o+j,none⟩=some u) (h1:∀ u∈news,u.oneCell'=true) (hg:∀ g o,a=some ⟨g,o,none⟩->0<n->g<w.heap.size) :
  Calls Tryz.prog 72 #[.slice a n c] w (ClnP 62 2 n news w):=by
 obtain ⟨i0,hi,hz0,hz1,hz2⟩:=info_parts Tryz.infoPair;have qT:∀ (w:World) (a:Option Addr) (n c n' c':Nat),(binOp .eql 22 (.slice a n c) (.slice none n' c')).run Tryz.prog w=.ok (.bool a.isNone) w:=fun w a n c n' c'=>Lib.run_eql_slice_nil w _ _ a n c n' c' Tryz.underlying22;unfold ClnP;cases a with
 | none =>
  obtain rfl:n=0:=by
   rcases Nat.eq_zero_or_pos n with q|q
   ·exact q
   ·obtain ⟨g,o,e,_⟩:=hsrc q;cases e
  obtain rfl:news=[]:=List.length_eq_zero_iff.1 (by omega);clear hsrc h1 hg;go_enter Tryz.func72,Tryz.ntmps72;go_wp2_with fail;go_ret;exact ⟨_,rfl,World.ownsRow_nil _ _ _ _,Kept.refl _⟩
 | some ad =>
  have HNEWS:Hid (∀ j u,news[j]? = some u->(w.alloc (.cells #[] 62)).cell? (ad.add j)=some u):=fun j u hu=>by
   have hj:=(List.getElem?_eq_some_iff.1 hu).1;have hq:0<n:=by
    rcases Nat.eq_zero_or_pos n with q|q
    ·rw[q] at hl;omega
    ·exact q
   obtain ⟨g,o,e,hc⟩:=hsrc hq;cases e;rw[zeI];exact ((zaA w (.cells #[] 62)).cell (p:=⟨g,o+j,none⟩) (hg g o rfl hq)).trans (hc j u hu)
  have HONE:=Hd h1;clear hsrc h1 hg;go_enter Tryz.func72,Tryz.ntmps72;go_wp2_with (at_builtin;refine wpList_append_own _ rfl _ _ 22 rfl w.heap.size 62 i0 (.agg #[.string ⟨#[]⟩,.string ⟨#[]⟩]) 2 32 Tryz.underlying22 hi hz0 hz1 hz2 rfl (by decide) _ 0 [] rfl (World.ownsRow_made w #[] 0 (Nat.le_refl _) (by unfold maxLen;omega) (by simp)) ad n c news rfl hl HNEWS.out HONE.out ?_ ?_ ?_ ?_)
  ·unfold maxLen;omega
  ·omega
  ·simp
  intro v' w2 hown2 hgrow _;have HR:=Hd hown2;have HK:=Hd ((zaA w (.cells #[] 62)).trans' (zaG (World.ownsRow_made (size:=2) w #[] 0 (Nat.le_refl _) (by unfold maxLen;omega) (by simp)) hgrow (by simp)));clear hown2 hgrow;go_wp2_with fail;go_ret;exact ⟨_,rfl,by simpa using HR.out,HK.out⟩
theorem zBL (a:Option Addr) (n c:Nat) (news:List Value) (w:World) (hl:news.length=n * 4) (hn:n<=1100000) (hsrc:0<n->∃ g o,a=some ⟨g,o,none⟩/\∀ j u,news[j]? = some u->w.cell? ⟨g,o+j,none⟩=some u) (h1:∀ u∈news,u.oneCell'=true) (hg:∀ g o,a=some ⟨g,o,none⟩->0<n->g<w.heap.size) :
  Calls Tryz.prog 79 #[.slice a n c] w (ClnP 68 4 n news w):=by
 obtain ⟨i0,hi,hz0,hz1,hz2⟩:=info_parts Tryz.infoCit;have qT:∀ (w:World) (a:Option Addr) (n c n' c':Nat),(binOp .eql 69 (.slice a n c) (.slice none n' c')).run Tryz.prog w=.ok (.bool a.isNone) w:=fun w a n c n' c'=>Lib.run_eql_slice_nil w _ _ a n c n' c' Tryz.underlying69;unfold ClnP;cases a with
 | none =>
  obtain rfl:n=0:=by
   rcases Nat.eq_zero_or_pos n with q|q
   ·exact q
   ·obtain ⟨g,o,e,_⟩:=hsrc q;cases e
  obtain rfl:news=[]:=List.length_eq_zero_iff.1 (by omega);clear hsrc h1 hg;go_enter Tryz.func79,Tryz.ntmps79;go_wp2_with fail;go_ret;exact ⟨_,rfl,World.ownsRow_nil _ _ _ _,Kept.refl _⟩
 | some ad =>
  have HNEWS:Hid (∀ j u,news[j]? = some u->(w.alloc (.cells #[] 68)).cell? (ad.add j)=some u):=fun j u hu=>by
   have hj:=(List.getElem?_eq_some_iff.1 hu).1;have hq:0<n:=by
    rcases Nat.eq_zero_or_pos n with q|q
    ·rw[q] at hl;omega
    ·exact q
   obtain ⟨g,o,e,hc⟩:=hsrc hq;cases e;rw[zeI];exact ((zaA w (.cells #[] 68)).cell (p:=⟨g,o+j,none⟩) (hg g o rfl hq)).trans (hc j u hu)
  have HONE:=Hd h1;clear hsrc h1 hg;go_enter Tryz.func79,Tryz.ntmps79;go_wp2_with (at_builtin;refine wpList_append_own _ rfl _ _ 69 rfl w.heap.size 68 i0 (.agg #[.string ⟨#[]⟩,.string ⟨#[]⟩,.string ⟨#[]⟩,.bool false]) 4 56 Tryz.underlying69 hi hz0 hz1 hz2 rfl (by decide) _ 0 [] rfl (World.ownsRow_made w #[] 0 (Nat.le_refl _) (by unfold maxLen;omega) (by simp)) ad n c news rfl hl HNEWS.out HONE.out ?_ ?_ ?_ ?_)
  ·unfold maxLen;omega
  ·omega
  ·simp
  intro v' w2 hown2 hgrow _;have HR:=Hd hown2;have HK:=Hd ((zaA w (.cells #[] 68)).trans' (zaG (World.ownsRow_made (size:=4) w #[] 0 (Nat.le_refl _) (by unfold maxLen;omega) (by simp)) hgrow (by simp)));clear hown2 hgrow;go_wp2_with fail;go_ret;exact ⟨_,rfl,by simpa using HR.out,HK.out⟩
def ClnS (xs:List Bs) (w:World) (en:Ending) (w':World):Prop:=∃ v',en=.returned v'/\Strs w' v' xs/\InB (fun g=>w.heap.size<=g) v' xs.length/\Kept w w'
theorem zE3 (v:Value) (xs:List Bs) (w:World) (hv:Strs w v xs) (hn:xs.length<=1100000):Calls Tryz.prog 78 #[v] w (ClnS xs w):=by
 obtain ⟨a,c,rfl,hc,h3⟩:=hv;refine (zBJ a xs.length c (zaH xs) w (by rw[zgC,Nat.mul_one]) hn (fun q=>?_) (zj0 xs) (fun g o e q=>?_)).mono ?_
 ·obtain ⟨g,o,e,_,hcell⟩:=h3 q;refine ⟨g,o,e,fun j u hu=>?_⟩;obtain ⟨x,hx,rfl⟩:=ziE xs j u hu;exact hcell j x hx
 ·obtain ⟨g',o',e',hg,_⟩:=h3 q;rw[e] at e';cases e';exact hg
 ·rintro e w' ⟨v',rfl,ho,hk⟩;exact ⟨v',rfl,Strs.own ho,fun _ g hg=>(ho.lt g hg).1,hk⟩
def ClnF (xs:List Pr) (w:World) (en:Ending) (w':World):Prop:=∃ v',en=.returned v'/\Prs w' v' xs/\InB (fun g=>w.heap.size<=g) v' xs.length/\Kept w w'
theorem zFg (v:Value) (xs:List Pr) (w:World) (hv:Prs w v xs) (hn:xs.length<=1100000):Calls Tryz.prog 72 #[v] w (ClnF xs w):=by
 obtain ⟨a,c,rfl,hc,h3⟩:=hv;refine (zBK a xs.length c (zcV xs) w (zqC xs) hn (fun q=>?_) (zqD xs) (fun g o e q=>?_)).mono ?_
 ·obtain ⟨g,o,e,_,hcell⟩:=h3 q;exact ⟨g,o,e,fun j u hu=>znA w g xs o hcell j u hu⟩
 ·obtain ⟨g',o',e',hg,_⟩:=h3 q;rw[e] at e';cases e';exact hg
 ·rintro e w' ⟨v',rfl,ho,hk⟩;exact ⟨v',rfl,Prs.own ho,fun _ g hg=>(ho.lt g hg).1,hk⟩
def ClnT (xs:List Cit) (w:World) (en:Ending) (w':World):Prop:=∃ v',en=.returned v'/\Cits (fun g=>w.heap.size<=g) w' v' xs/\Kept w w'
theorem zBM {cs:List Value} {x:Cit} (h:CitW cs x):∀ u∈cs,u.oneCell'=true:=by
 intro u hu;unfold CitW at h;rw[h] at hu;simp only[List.mem_cons,List.not_mem_nil,or_false] at hu;rcases hu with rfl|rfl|rfl|rfl <;> rfl
theorem zFt {S:Nat->Prop} (v:Value) (xs:List Cit) (w:World) (hv:Cits S w v xs) (hn:xs.length<=1100000):Calls Tryz.prog 79 #[v] w (ClnT xs w):=by
 obtain ⟨a,c,rfl,hc⟩:=hv.form;obtain ⟨css,e1,e2,e3,e4⟩:=RowR.css (by decide) hv;refine (zBL a xs.length c css.flatten w (by rw[zoX css e2,e1]) hn (fun q=>?_) ?_ (fun g o e q=>?_)).mono ?_
 ·obtain ⟨g,o,e,_,_,hcell⟩:=e4 q;exact ⟨g,o,e,hcell⟩
 ·intro u hu;obtain ⟨cs,hcs,hu⟩:=List.mem_flatten.1 hu;obtain ⟨j,hj,rfl⟩:=List.getElem_of_mem hcs;exact zBM (e3 j _ _ (List.getElem?_eq_getElem hj) (List.getElem?_eq_getElem (by omega))) u hu
 ·obtain ⟨g',o',e',hg,_⟩:=e4 q;rw[e] at e';cases e';exact hg
 ·rintro e w' ⟨v',rfl,ho,hk⟩;exact ⟨v',rfl,RowR.own css e2 e1 ho e3 (fun g _ hb=>hb),hk⟩
abbrev atV (id:Bs) (vC vP:Value):Value:=.agg #[.string (bs id),vC,vP]
theorem Tryz.sizeAt:(Tryz.prog.info? 56).map (fun x=>x.size)=some 3:=by kernel_rfl
theorem Strs.shape {w:World} {v:Value} {xs:List Bs} (h:Strs w v xs):∃ a c,v=.slice a xs.length c/\xs.length<=c:=by obtain ⟨a,c,e,l,_⟩:=h;exact ⟨a,c,e,l⟩
theorem Prs.shape {w:World} {v:Value} {xs:List Pr} (h:Prs w v xs):∃ a c,v=.slice a xs.length c/\xs.length<=c:=by obtain ⟨a,c,e,l,_⟩:=h;exact ⟨a,c,e,l⟩
def CatP (id:Bs) (cls:List Bs) (prs:List Pr) (w:World) (en:Ending) (w':World):Prop:=∃ vC vP,en=.returned (atV id vC vP)/\(Strs w' vC cls/\InB (fun g=>w.heap.size<=g) vC cls.length)/\(Prs w' vP prs/\InB (fun g=>w.heap.size<=g) vP prs.length)/\Kept w w'
theorem zt9 (id:Bs) (vC vP:Value) (cls:List Bs) (prs:List Pr) (w:World) (hC:Strs w vC cls) (hP:Prs w vP prs) (hc:cls.length<=1100000) (hp:prs.length<=1100000) :
  Calls Tryz.prog 77 #[atV id vC vP] w (CatP id cls prs w):=by
 have HC:=Hd hC;have HP:=Hd hP;obtain ⟨aC,cC,rfl,lC⟩:=hC.shape;obtain ⟨aP,cP,rfl,lP⟩:=hP.shape;have HCC:=Hd (fun v w h=>zE3 v cls w h hc);have HCP:=Hd (fun v w h=>zFg v prs w h hp);unfold ClnS at HCC;unfold ClnF at HCP;clear hC hP;have e1:(w.alloc (.cells #[.string (bs id),.slice aC cls.length cC,.slice aP prs.length cP] 56)).heap.size=w.heap.size+1:=(by simp);have HB0:=Hd ((Blk.new w 56 #[.string (bs id),.slice aC cls.length cC,.slice aP prs.length cP]).alloc (.cells #[.string (bs []),.slice none 0 0,.slice none 0 0] 56));have HR0:=Blk.new (w.alloc (.cells #[.string (bs id),.slice aC cls.length cC,.slice aP prs.length cP] 56)) 56 #[.string (bs []),.slice none 0 0,.slice none 0 0];rw[e1] at HR0;have HR:=Hd HR0;have HK0:=Hd ((zaA w (.cells #[.string (bs id),.slice aC cls.length cC,.slice aP prs.length cP] 56)).trans (zaA _ (.cells #[.string (bs []),.slice none 0 0,.slice none 0 0] 56)));clear HR0 e1;obtain ⟨B,HBB⟩:∃ B,Hid (w.heap.size=B):=⟨_,rfl⟩;have hBz:w.heap.size<=B:=(by rw[HBB.out];exact Nat.le_refl _);have hBz1:w.heap.size<=B+1:=(by omega);go_enter Tryz.func77,Tryz.ntmps77;go_wp2_with fail;generalize World.alloc (World.alloc _ _) _=w0 at *;rw[HBB.out] at HB0 HR ⊢;clear HBB;have hBw0:B<w0.heap.size:=HB0.out.lt;have hRw0:B+1<w0.heap.size:=HR.out.lt;refine (HCC.out _ _ (HC.out.kept HK0.out)).mono ?_;rintro e w1 ⟨v1,rfl,hs1,hi1,hk1⟩;obtain ⟨a1,c1,rfl,l1⟩:=hs1.shape;have HS1:=Hd hs1;have HI1:=Hd hi1;have HB1:=Hd (HB0.out.kept hk1);have HR1:=Hd (HR.out.kept hk1);have HK1:=Hd (HK0.out.trans hk1);have hz2:w0.heap.size<=(w1.setCell ⟨B,1,none⟩ (.slice a1 cls.length c1)).heap.size:=(by rw[zcG];exact hk1.size);clear hs1 hi1 hk1 HB0 HR HK0 HCC HC;have b1:w1.cell? ⟨B,1,none⟩=some (.slice aC cls.length cC):=HB1.out.cell 1 _ rfl;have b2:w1.cell? ⟨B,2,none⟩=some (.slice aP prs.length cP):=HB1.out.cell 2 _ rfl;have f1:=HB1.out.free 1;have bz:=HB1.out.lt;have HB2:Hid (Blk (w1.setCell ⟨B,1,none⟩ (.slice a1 cls.length c1)) B 56 #[.string (bs id),.slice a1 cls.length c1,.slice aP prs.length cP]):=HB1.out.set 1 _;have HR2:=Hd (HR1.out.other B 1 (.slice a1 cls.length c1) (by omega));have HK2:=Hd (zb3 HK1.out B 1 (.slice a1 cls.length c1) hBz);have HS2:=Hd (HS1.out.onlS HI1.out (Only.setCell B 1 (.slice a1 cls.length c1)) (fun g _ hs q=>by omega));clear HB1 HR1 HK1 HS1;go_wp2_with fail;generalize World.setCell _ _ _=w2 at *;clear b1 b2 f1 bz;refine (HCP.out _ _ (HP.out.kept HK2.out)).mono ?_;rintro e w3 ⟨v2,rfl,hs3,hi3,hk3⟩;obtain ⟨a3,c3,rfl,l3⟩:=hs3.shape;have HP3:=Hd hs3;have HI3:=Hd hi3;have HB3:=Hd (HB2.out.kept hk3);have HR3:=Hd (HR2.out.kept hk3);have HK3:=Hd (HK2.out.trans hk3);have HS3:=Hd (HS2.out.kept hk3);clear hs3 hi3 hk3 HB2 HR2 HK2 HS2 HCP HP;have b0:w3.cell? ⟨B,0,none⟩=some (.string (bs id)):=HB3.out.cell 0 _ rfl;have b1:w3.cell? ⟨B,1,none⟩=some (.slice a1 cls.length c1):=HB3.out.cell 1 _ rfl;have b2:w3.cell? ⟨B,2,none⟩=some (.slice aP prs.length cP):=HB3.out.cell 2 _ rfl;have f2:=HB3.out.free 2;have bz:=HB3.out.lt;have HB4:Hid (Blk (w3.setCell ⟨B,2,none⟩ (.slice a3 prs.length c3)) B 56 #[.string (bs id),.slice a1 cls.length c1,.slice a3 prs.length c3]):=HB3.out.set 2 _;have HR4:=Hd (HR3.out.other B 2 (.slice a3 prs.length c3) (by omega));have HK4:=Hd (zb3 HK3.out B 2 (.slice a3 prs.length c3) hBz);have HS4:=Hd (HS3.out.onlS HI1.out (Only.setCell B 2 (.slice a3 prs.length c3)) (fun g _ hs q=>by omega));have HP4:=Hd (HP3.out.onlS HI3.out (Only.setCell B 2 (.slice a3 prs.length c3)) (fun g _ hs q=>by omega));clear HB3 HR3 HK3 HS3 HP3;go_wp2_with (first
  | (refine zaW (by rfl) 56 (.tmp 1) (by rfl) B _ (by rfl) HB4.out _ Tryz.underlying56 rfl Tryz.sizeAt ?_)
  | (refine zbA rfl 56 (.tmp 2) (.tmp 11) (by rfl) (B+1) _ #[.string (bs id),.slice a1 cls.length c1,.slice a3 prs.length c3] (by rfl) (by rfl) HR4.out rfl Tryz.sizeAt (by simp only[List.all_toArray,List.all_cons,List.all_nil];rfl) ?_;intro w9 hb9 ho9;have r0:w9.cell? ⟨B+1,0,none⟩=some (.string (bs id)):=hb9.cell 0 _ rfl;have r1:w9.cell? ⟨B+1,1,none⟩=some (.slice a1 cls.length c1):=hb9.cell 1 _ rfl;have r2:w9.cell? ⟨B+1,2,none⟩=some (.slice a3 prs.length c3):=hb9.cell 2 _ rfl;have rz:=hb9.lt;have HK9:=Hd (HK4.out.trans' (ho9.below HK4.out.size (fun i e=>by rw[e];exact hBz1)));have HS9:=Hd (HS4.out.onlS HI1.out ho9 (fun g _ hs q=>by omega));have HP9:=Hd (HP4.out.onlS HI3.out ho9 (fun g _ hs q=>by omega));clear hb9 ho9))
 have HFIN:CatP id cls prs w (.returned (atV id (.slice a1 cls.length c1) (.slice a3 prs.length c3))) w9:=⟨_,_,rfl,⟨HS9.out,HI1.out.mono fun g _ _ q=>by omega⟩,⟨HP9.out,HI3.out.mono fun g _ _ q=>by omega⟩,HK9.out⟩;refine bodyPost_ret (v:=atV id (.slice a1 cls.length c1) (.slice a3 prs.length c3)) ?_ rfl HFIN;simp [results,Tryz.results77,go_sem,r0,r1,r2,rz]
end Go.Proofs.YtmcoomlkbgiboaaGreatDoor
