/- Parts. -/
import Derived.Test.YtnldgmhdjancbaaGreatDoorW12
import Derived.Lib.SliceRun
set_option linter.all false
set_option maxRecDepth 100000
set_option maxHeartbeats 6400000
namespace Go.Proofs.YtnldgmhdjancbaaGreatDoor
open Go.RowKit Go.Proofs.Tryz
def QK(Q:Exit->Act->World->Prop)(K:Act->World->Prop):Exit->Act->World->Prop
 | .normal,a,w=>K a w
 | e,a,w=>Q e a w
def zmK{P:Program}{ops:Array Oper}{Q:Exit->Act->World->Prop}{i:Nat}{o:Oper}{K:Act->World->Prop}{a:Act}{w:World}(ho:ops[i]? = some o)(h:wpList P ops (QK Q K) [o] a w):wpOp P ops Q i K a w:=by
 unfold wpOp;simp only[ho];unfold wpList at h;have hK:wpList P ops (QK Q K) []=K:=(by funext a w;rfl);rw[hK]at h;have hu:∀r,o.upon P a K (QK Q K) r->o.upon P a K Q r:=by
  intro r hr;unfold Oper.upon at hr ⊢;revert hr
  split<;>exact fun h=>h
 split
 .rename_i hw;rw[ae hw]at h;rcases h with h|⟨h1,h2⟩
  .exact .inl (hu _ h)
  .exact .inr ⟨h1,h2⟩
 .rename_i hw;rw[aa hw]at h;exact h
def zEG{w:World}{base g n lJ size:Nat}{e:TypeId}{xs:List Value}(h:w.ownsRow base e size (.slice (some ⟨g,0,none⟩) n lJ) n xs)(o:Nat)(vs:List Value)(ho:o+vs.length<=n * size):(w.setCells g o vs).ownsRow base e size (.slice (some ⟨g,0,none⟩) n lJ) n (xs.take o++(vs++xs.drop (o+vs.length))):=by
 obtain⟨hl,h⟩:=h;refine⟨by rw[ah,ah,bw,dO];omega,?_⟩;rcases h with⟨hv,_⟩|⟨g',cap',mK,hv,hb,hg,hn,hm,hs,hx⟩
 .cases hv
 .obtain⟨e1,_,e3⟩:=bL hv;obtain rfl:g=g':=(by cases e1;rfl);subst e3;have ny:n * size<=lJ * size:=eB _ hn;refine .inr ⟨g,lJ,_,rfl,hb,zwA (w:=w) (R:=g) (ty:=e) (old:=mK) hg o vs a_,hn,hm,?_,?_⟩
  .unfold zIP;rw[dQ,ah,ah,bw,dO,dD];omega
  .unfold zIP;have hll:mK.toList.length=mK.size:=dD;show List.take (n * size) (mK.toList.take o++(vs++mK.toList.drop (o+vs.length)))=_;rw[<- hx,List.take_append,kG,List.take_append,bw,kx (show o<=mK.toList.length by omega),kG,Nat.min_eq_right (show o<=n * size by omega),kx (show o<=n * size by omega),bx (show vs.length<=n * size - o by omega),List.drop_take];rw[show n * size - o - vs.length=n * size - (o+vs.length)by omega]
def zwJ{k:Nat}:∀(css:List (List Value)),(∀cs∈css,cs.length=k)->∀(j:Nat) (cs:List Value),j<css.length->cs.length=k->(css.set j cs).flatten=css.flatten.take (j * k)++(cs++css.flatten.drop (j * k+cs.length))
 | [],_,_,_,h,_=>by cases h
 | c::css,hl,0,cs,_,hc=>by
  have:=hl c b_;rw[ax,dN,dN,gi,cH,dV,bP,hc,<- this,List.drop_left]
 | c::css,hl,j+1,cs,h,hc=>by
  have hk:=hl c b_;have ih:=zwJ css (fun x hx=>hl x (bl _ hx)) j cs (by simpa using h) hc;have a1:(c++css.flatten).take ((j+1) * k)=c++css.flatten.take (j * k):=by
   rw[show(j+1) * k=c.length+j * k by rw[hk,fO];omega,List.take_length_add_append]
  have a2:(c++css.flatten).drop ((j+1) * k+cs.length)=css.flatten.drop (j * k+cs.length):=by
   rw[show(j+1) * k+cs.length=c.length+(j * k+cs.length)by rw[hk,fO];omega,List.drop_length_add_append]
  rw[ay,dN,dN,ih,a1,a2,cX]
section
variable {α:Type}{R:(Nat->Prop)->World->List Value->α->Prop}{k:Nat}{A:Nat->Prop}{base:Nat}{e:TypeId}{w w':World}{v:Value}{xs:List α}
def OutG.at_{a:Option Addr}{n lJ:Nat}(h:OutG R k A base e w (.slice a n lJ) xs)(j:Nat)(x:α)(hx:xs[j]? = some x):∃g cs,a=some ⟨g,0,none⟩/\base<=g/\g<w.heap.size/\n=xs.length/\xs.length<=lJ/\cs.length=k/\(∀i u,cs[i]? = some u->w.cell? ⟨g,j * k+i,none⟩=some u)/\R (fun g'=>A g'/\g≠g') w cs x:=by
 obtain⟨css,h1,h2,ho,h4⟩:=h;obtain⟨a',c,hv,hc,_,h3⟩:=zaZ ho;obtain⟨rfl,rfl,rfl⟩:=bL hv;have hj:=(ak.1 hx).1;obtain⟨g,rfl,hb,hg,kR⟩:=h3 a_;have hcs:css[j]? = some (css[j]'a_):=ac a_;have hr:=h4 j _ x hcs hx;have hR:R (fun g'=>A g'/\g≠g') w (css[j]'a_) x:=by
  have e1:(fun g'=>A g'/\(Value.slice (some ⟨g,0,none⟩) xs.length lJ).ownBlock≠some g')=(fun g'=>A g'/\g≠g'):=by
   funext g';simp [Value.ownBlock]
  rw[<- e1];exact hr
 exact⟨g,_,rfl,hb,hg,rfl,hc,h2 _ (dm _),fun i u hu=>kR _ u (zpI css h2 j _ hcs i u hu),hR⟩
def OutG.put{g n lJ:Nat}(hR:ReadK R)(h:OutG R k A base e w (.slice (some ⟨g,0,none⟩) n lJ) xs)(j:Nat)(hj:j<xs.length)(cs:List Value)(y:α)(hc:cs.length=k)(hy:R (fun g'=>A g'/\g≠g') w cs y):OutG R k A base e (w.setCells g (j * k) cs) (.slice (some ⟨g,0,none⟩) n lJ) (xs.set j y):=by
 obtain⟨css,h1,h2,ho,h4⟩:=h;have hn:n=xs.length:=by
  obtain⟨a',c,hv,_⟩:=zaZ ho;exact(bL hv).2.1
 subst hn;have hl:j * k+cs.length<=xs.length * k:=by
  have:(j+1) * k<=xs.length * k:=eB _ hj;rw[fO]at this;omega
 have Dj:Sam (fun g'=>A g'/\g≠g') w (w.setCells g (j * k) cs):=cm (zc3 cs (j * k) w) (fun g' _ hs q=>hs.2 q.symm);have e1:∀c,(fun g'=>A g'/\(Value.slice (some ⟨g,0,none⟩) c lJ).ownBlock≠some g')=(fun g'=>A g'/\g≠g'):=by
  intro c;funext g';simp [Value.ownBlock]
 refine⟨css.set j cs,by simp [h1],fun c hcs=>?_,?_,fun i c x hci hx=>?_⟩
 .rcases gZ hcs with q|q
  .exact h2 c q
  .rw[q];exact hc
 .rw[zwJ css h2 j cs a_ hc,List.length_set];exact zEG ho (j * k) cs hl
 .rw[e1];by_cases q:j=i
  .subst q;rw[List.getElem?_set_self a_]at hci;rw[List.getElem?_set_self hj]at hx;cases hci;cases hx;exact hR.sam hy Dj (fun _ _ h=>h)
  .rw[List.getElem?_set_ne q]at hci hx;have:=h4 i c x hci hx;rw[e1]at this;exact hR.sam this Dj (fun _ _ h=>h)
def OutG.there{g n lJ:Nat}(h:OutG R k A base e w (.slice (some ⟨g,0,none⟩) n lJ) xs)(j:Nat)(hj:j<xs.length):w.there g (j * k) k:=by
 obtain⟨css,h1,h2,ho,h4⟩:=h;obtain⟨hl,h⟩:=ho;rcases h with⟨hv,_⟩|⟨g',cap',mK,hv,hb,hg,hn,hm,hs,hx⟩
 .cases hv
 .obtain⟨e1,e2,e3⟩:=bL hv;obtain rfl:g=g':=(by cases e1;rfl);have hB:Blk w g e mK:=hg;have h1:(j+1) * k<=cap' * k:=eB _ a_;rw[fO]at h1;exact fun i hi=>⟨by rw[hB.cell (j * k+i) (mK[j * k+i]'a_) (by rw[bY])];rfl,hB.free _⟩
def zkZ{P:Program}(hR:ReadK R){ops:Array Oper}{rest:List Oper}{o:Oper}{a:Act}{Q:Exit->Act->World->Prop}(hgd:o.guard=none)(x y:Operand)(ho:o.op=.store e x y){g n lJ:Nat}(h0:OutG R k A base e w (.slice (some ⟨g,0,none⟩) n lJ) xs)(j:Nat)(hj:j<xs.length)(cs:List Value)(z:α)(hx:a.eval x=.pointer (some ⟨g,j * k,none⟩))(hy:a.eval y=.agg cs.toArray)(hc:cs.length=k)(hi:(P.info? e).map (·.size)=some k)(hz:R (fun g'=>A g'/\g≠g') w cs z)(h:∀w',OutG R k A base e w' (.slice (some ⟨g,0,none⟩) n lJ) (xs.set j z)->Only (fun i=>i=g) w w'->wpList P ops Q rest (a.put o.dst undef) w'):wpList P ops Q (o::rest) a w:=by
 have ht:=h0.there j hj;refine wpList_store_mid hgd e x y ho g (j * k) cs.toArray hx hy ?_ ?_ (all_oneCell_toArray (hR.one hz)) (h _ ?_ ?_)
 .rw[dQ,hc];exact ht
 .rw[dQ,hc];exact hi
 .exact OutG.put hR h0 j hj cs z hc hz
 .exact zc3 _ _ _
end
def zKC(ps:List Pr)(k:Bs):Option Bs:=(ps.find? fun q=>q.1==k).map (·.2)
mutual
def zmL:Inl->Bs
 | .mk kL kN kP _ _ _ _ _ _ kM =>
  if kL=1\/kL=4\/kL=5 then kN else if kL=2\/kL=3 then [32]else if 6<=kL/\kL<=11 then zbY kM else if kL=16 then kP else []
def zbY:List Inl->Bs
 | []=>[]
 | x::xs=>zmL x++zbY xs
end
mutual
def zeH:Inl->List Inl
 | .mk kL kN kP title id cls prs args kQ kM=>.mk kL kN kP title id cls prs args kQ kM::zaD kM
def zaD:List Inl->List Inl
 | []=>[]
 | x::xs=>zeH x++zaD xs
end
mutual
def ze1:Blo->List Inl
 | .mk _ _ _ _ _ _ _ _ _ kY kM=>zaD kY++zaW kM
def zaW:List Blo->List Inl
 | []=>[]
 | x::xs=>ze1 x++zaW xs
end
def zcY(x:Inl):zeH x=x::zaD x.kids:=by cases x;rfl
def zlL(b:Blo):ze1 b=zaD b.line++zaW b.kids:=by cases b;rfl
def zBC(x:Inl):zmL x=if x.kind=1\/x.kind=4\/x.kind=5 then x.text else if x.kind=2\/x.kind=3 then [32]else if 6<=x.kind/\x.kind<=11 then zbY x.kids else if x.kind=16 then x.dest else []:=by cases x;rfl
def zfM(xs ys:List Inl):zaD (xs++ys)=zaD xs++zaD ys:=by
 induction xs with
 | nil=>rfl
 | cons x xs ih=>show zeH x++zaD (xs++ys)=_;rw[ih];show _=(zeH x++zaD xs)++_;rw[cX]
def zoC(xs ys:List Inl):zbY (xs++ys)=zbY xs++zbY ys:=by
 induction xs with
 | nil=>rfl
 | cons x xs ih=>show zmL x++zbY (xs++ys)=_;rw[ih];show _=(zmL x++zbY xs)++_;rw[cX]
def zi5(xs ys:List Blo):zaW (xs++ys)=zaW xs++zaW ys:=by
 induction xs with
 | nil=>rfl
 | cons x xs ih=>show ze1 x++zaW (xs++ys)=_;rw[ih];show _=(ze1 x++zaW xs)++_;rw[cX]
def zaV{α:Type}{xs:List α}{k:Nat}{x:α}(h:xs[k]? = some x):xs.take (k+1)=xs.take k++[x]:=by
 obtain⟨hk,rfl⟩:=ak.1 h;exact bf hk
def Tryz.infoCit:(prog.info? 62).map (fun i=>(i.zero,i.size,i.bytes))=some (some (.agg #[.string ⟨#[]⟩,.string ⟨#[]⟩,.string ⟨#[]⟩,.bool false]),4,56):=g_
def ClnP(e:TypeId)(k:Nat)(n:Nat)(news:List Value)(w:World)(en:Ending)(w':World):Prop:=∃v',en=.returned v'/\w'.ownsRow w.heap.size e k v' n news/\Kept w w'
def zuF(f:FuncId)(tl te:TypeId)(z:Value)(k b:Nat)(hd:(f=61/\tl=37/\te=9/\z=.string ⟨#[]⟩/\k=1/\b=16)\/(f=25/\tl=22/\te=46/\z=.agg #[.string ⟨#[]⟩,.string ⟨#[]⟩]/\k=2/\b=32)\/(f=62/\tl=63/\te=62/\z=.agg #[.string ⟨#[]⟩,.string ⟨#[]⟩,.string ⟨#[]⟩,.bool false]/\k=4/\b=56))(hu:prog.underlying tl=some (.slice te))(hi0:(prog.info? te).map (fun i=>(i.zero,i.size,i.bytes))=some (some z,k,b))(a:Option Addr)(n c:Nat)(news:List Value)(w:World)(hl:news.length=n * k)(hn:n<=1100000)(hsrc:0<n->∃g o,a=some ⟨g,o,none⟩/\∀j u,news[j]? = some u->w.cell? ⟨g,o+j,none⟩=some u)(h1:∀u∈news,u.oneCell'=true)(hg:∀g o,a=some ⟨g,o,none⟩->0<n->g<w.heap.size):Calls prog f #[.slice a n c] w (ClnP te k n news w):=by
 obtain⟨i0,hi,mr,mq,mm⟩:=cg hi0;have qT:∀(w:World) (a:Option Addr) (n c n' c':Nat),(binOp .eql tl (.slice a n c) (.slice none n' c')).run prog w=.ok (.bool a.isNone) w:=fun w a n c n' c'=>Lib.run_eql_slice_nil w _ _ a n c n' c' hu;have sC:Hi (∀ad e,a=some ad->∀j u,news[j]? = some u->(w.alloc (.cells #[] e)).cell? (ad.add j)=some u):=fun ad e ha j u hu=>by
  have hj:=(ak.1 hu).1;have hq:0<n:=by
   rcases dT n with q|q
   .rw[q]at hl;omega
   .exact q
  obtain⟨g,o,e',hc⟩:=hsrc hq;cases ha.symm.trans e';rw[zfJ];exact((zaA w _).cell (p:=⟨g,o+j,none⟩) (hg g o e' hq)).trans (hc j u hu)
 have qk:=Hd h1;have nV:Hi (a=none->n=0/\news=[]):=fun ha=>by
  have hn0:n=0:=by
   rcases dT n with q|q
   .exact q
   .obtain⟨g,o,e,_⟩:=hsrc q;rw[ha]at e;cases e
  subst hn0;exact⟨rfl,bD.1 a_⟩
 have HU:=Hd hu;have HM:=Hd (fm (e:=te) (size:=k) w #[] 0 (aw _) h_ b_);unfold ClnP;clear hsrc h1 hg hi0 hu;rcases hd with⟨rfl,rfl,rfl,rfl,rfl,rfl⟩|⟨rfl,rfl,rfl,rfl,rfl,rfl⟩|⟨rfl,rfl,rfl,rfl,rfl,rfl⟩
 all_goals
  cases a with
  | none =>
   obtain⟨rfl,rfl⟩:=nV.o rfl
   first|go_in|go_enter kr,jX|go_in
   go_wp2;go_ret;exact⟨_,rfl,dg _ _ _ _,af _⟩
  | some ad =>
   clear nV
   first|go_in|go_enter kr,jX|go_in
   go_wp2_with (at_builtin;refine cV _ rfl _ _ _ rfl w.heap.size _ i0 _ _ _ HU.o hi mr mq mm rfl c_ _ 0 [] rfl HM.o ad n c news rfl hl (sC.o ad _ rfl) qk.o ?_ ?_ ?_ ?_)
   .unfold maxLen;omega
   .omega
   .simp
   intro v' w2 lr lw _;have HR:=Hd lr;have HK:=Hd ((zaA w _).trans' (za2 HM.o lw b_));clear lr lw;go_wp2;go_ret;exact⟨_,rfl,by simpa using HR.o,HK.o⟩
def ClnS(xs:List Bs)(w:World)(en:Ending)(w':World):Prop:=∃v',en=.returned v'/\Strs w' v' xs/\InB (fun g=>w.heap.size<=g) v' xs.length/\Kept w w'
def zJe(v:Value)(xs:List Bs)(w:World)(hv:Strs w v xs)(hn:xs.length<=1100000):Calls prog 61 #[v] w (ClnS xs w):=by
 obtain⟨a,c,rfl,hc,h3⟩:=hv;refine(zuF _ _ _ _ _ _ (.inl ⟨rfl,rfl,rfl,rfl,rfl,rfl⟩) dw Tryz.infoStr a xs.length c (zaL xs) w (by rw[zgJ,fk]) hn (fun q=>?_) (zkD xs) (fun g o e q=>?_)).mono ?_
 .obtain⟨g,o,e,_,kR⟩:=h3 q;refine⟨g,o,e,fun j u hu=>?_⟩;obtain⟨x,hx,rfl⟩:=ziN xs j u hu;exact kR j x hx
 .obtain⟨g',o',e',hg,_⟩:=h3 q;rw[e]at e';cases e';exact hg
 .rintro e w' ⟨v',rfl,ho,hk⟩;exact⟨v',rfl,gU ho,fun _ g hg=>(ho.lt g hg).1,hk⟩
def ClnF(xs:List Pr)(w:World)(en:Ending)(w':World):Prop:=∃v',en=.returned v'/\Prs w' v' xs/\InB (fun g=>w.heap.size<=g) v' xs.length/\Kept w w'
def zKb(v:Value)(xs:List Pr)(w:World)(hv:Prs w v xs)(hn:xs.length<=1100000):Calls prog 25 #[v] w (ClnF xs w):=by
 obtain⟨a,c,rfl,hc,h3⟩:=hv;refine(zuF _ _ _ _ _ _ (.inr (.inl ⟨rfl,rfl,rfl,rfl,rfl,rfl⟩)) gh Tryz.infoPair a xs.length c (zcO xs) w (zrV xs) hn (fun q=>?_) (zrW xs) (fun g o e q=>?_)).mono ?_
 .obtain⟨g,o,e,_,kR⟩:=h3 q;exact⟨g,o,e,fun j u hu=>zn7 w g xs o kR j u hu⟩
 .obtain⟨g',o',e',hg,_⟩:=h3 q;rw[e]at e';cases e';exact hg
 .rintro e w' ⟨v',rfl,ho,hk⟩;exact⟨v',rfl,Prs.own ho,fun _ g hg=>(ho.lt g hg).1,hk⟩
def ClnT(xs:List Cit)(w:World)(en:Ending)(w':World):Prop:=∃v',en=.returned v'/\Cits (fun g=>w.heap.size<=g) w' v' xs/\Kept w w'
def zEH{cs:List Value}{x:Cit}(h:CitW cs x):∀u∈cs,u.oneCell'=true:=by
 intro u hu;unfold CitW at h;rw[h]at hu;simp only[bj,bO,ej]at hu;rcases hu with rfl|rfl|rfl|rfl<;>rfl
def zKc{S:Nat->Prop}(v:Value)(xs:List Cit)(w:World)(hv:Cits S w v xs)(hn:xs.length<=1100000):Calls prog 62 #[v] w (ClnT xs w):=by
 obtain⟨a,c,rfl,hc⟩:=hv.form;obtain⟨css,e1,e2,e3,e4⟩:=RowR.css c_ hv;refine(zuF _ _ _ _ _ _ (.inr (.inr ⟨rfl,rfl,rfl,rfl,rfl,rfl⟩)) underlying63 Tryz.infoCit a xs.length c css.flatten w (by rw[zlH css e2,e1]) hn (fun q=>?_) ?_ (fun g o e q=>?_)).mono ?_
 .obtain⟨g,o,e,_,_,kR⟩:=e4 q;exact⟨g,o,e,kR⟩
 .intro u hu;obtain⟨cs,hcs,hu⟩:=List.mem_flatten.1 hu;obtain⟨j,hj,rfl⟩:=dZ hcs;exact zEH (e3 j _ _ (ac hj) (ac a_)) u hu
 .obtain⟨g',o',e',hg,_⟩:=e4 q;rw[e]at e';cases e';exact hg
 .rintro e w' ⟨v',rfl,ho,hk⟩;exact⟨v',rfl,RowR.own css e2 e1 ho e3 (fun g _ hb=>hb),hk⟩
abbrev atV(id:Bs)(vC vP:Value):Value:=.agg #[.string (bs id),vC,vP]
def Tryz.sizeAt:(prog.info? 39).map (fun x=>x.size)=some 3:=g_
def Strs.shape{w:World}{v:Value}{xs:List Bs}(h:Strs w v xs):∃a c,v=.slice a xs.length c/\xs.length<=c:=by obtain⟨a,c,e,l,_⟩:=h;exact⟨a,c,e,l⟩
def Prs.shape{w:World}{v:Value}{xs:List Pr}(h:Prs w v xs):∃a c,v=.slice a xs.length c/\xs.length<=c:=by obtain⟨a,c,e,l,_⟩:=h;exact⟨a,c,e,l⟩
def CatP(id:Bs)(cls:List Bs)(prs:List Pr)(w:World)(en:Ending)(w':World):Prop:=∃vC vP,en=.returned (atV id vC vP)/\(Strs w' vC cls/\InB (fun g=>w.heap.size<=g) vC cls.length)/\(Prs w' vP prs/\InB (fun g=>w.heap.size<=g) vP prs.length)/\Kept w w'
def zwK(id:Bs)(vC vP:Value)(cls:List Bs)(prs:List Pr)(w:World)(hC:Strs w vC cls)(hP:Prs w vP prs)(hc:cls.length<=1100000)(hp:prs.length<=1100000):Calls prog 60 #[atV id vC vP] w (CatP id cls prs w):=by
 have HC:=Hd hC;have HP:=Hd hP;obtain⟨aC,cC,rfl,lC⟩:=hC.shape;obtain⟨aP,cP,rfl,lP⟩:=hP.shape;have mA:=Hd (fun v w h=>zJe v cls w h hc);have vu:=Hd (fun v w h=>zKb v prs w h hp);unfold ClnS at mA;unfold ClnF at vu;clear hC hP;have e1:(w.alloc (.cells #[.string (bs id),.slice aC cls.length cC,.slice aP prs.length cP] 39)).heap.size=w.heap.size+1:=b_;have mv:=Hd ((aI w 39 #[.string (bs id),.slice aC cls.length cC,.slice aP prs.length cP]).alloc (.cells #[.string (bs []),.slice none 0 0,.slice none 0 0] 39));have oI:=aI (w.alloc (.cells #[.string (bs id),.slice aC cls.length cC,.slice aP prs.length cP] 39)) 39 #[.string (bs []),.slice none 0 0,.slice none 0 0];rw[e1]at oI;have HR:=Hd oI;have lg:=Hd ((zaA w (.cells #[.string (bs id),.slice aC cls.length cC,.slice aP prs.length cP] 39)).trans (zaA _ (.cells #[.string (bs []),.slice none 0 0,.slice none 0 0] 39)));clear oI e1;obtain⟨B,mW⟩:=gX w.heap.size;have xK:w.heap.size<=B:=(by rw[mW.o];exact aw _);have vv:w.heap.size<=B+1:=a_;go_in;go_wp2_with fail;generalize World.alloc (World.alloc _ _) _=w0 at *;rw[mW.o]at mv HR ⊢;clear mW;have yp:B<w0.heap.size:=mv.o.lt;have Dk:B+1<w0.heap.size:=HR.o.lt;refine(mA.o _ _ (HC.o.kept lg.o)).mono ?_;rintro e w1 ⟨v1,rfl,hs1,hi1,ld⟩;obtain⟨a1,c1,rfl,l1⟩:=hs1.shape;have mt:=Hd hs1;have HI1:=Hd hi1;have ma:=Hd (mv.o.kept ld);have HR1:=Hd (HR.o.kept ld);have kT:=Hd (lg.o.trans ld);have mm:w0.heap.size<=(w1.setCell ⟨B,1,none⟩ (.slice a1 cls.length c1)).heap.size:=(by rw[zc1];exact ld.size);clear hs1 hi1 ld mv HR lg mA HC;have b1:w1.cell? ⟨B,1,none⟩=some (.slice aC cls.length cC):=ma.o.cell 1 _ rfl;have b2:w1.cell? ⟨B,2,none⟩=some (.slice aP prs.length cP):=ma.o.cell 2 _ rfl;have f1:=ma.o.free 1;have bz:=ma.o.lt;have lx:Hi (Blk (w1.setCell ⟨B,1,none⟩ (.slice a1 cls.length c1)) B 39 #[.string (bs id),.slice a1 cls.length c1,.slice aP prs.length cP]):=ma.o.set 1 _;have kS:=Hd (HR1.o.other B 1 (.slice a1 cls.length c1) a_);have kX:=Hd (zbF kT.o B 1 (.slice a1 cls.length c1) xK);have mb:=Hd (mt.o.onlS HI1.o (bK B 1 (.slice a1 cls.length c1)) (fun g _ hs q=>by omega));clear ma HR1 kT mt;go_wp2_with fail;generalize World.setCell _ _ _=w2 at *;clear b1 b2 f1 bz;refine(vu.o _ _ (HP.o.kept kX.o)).mono ?_;rintro e w3 ⟨v2,rfl,hs3,hi3,li⟩;obtain⟨a3,c3,rfl,l3⟩:=hs3.shape;have uc:=Hd hs3;have HI3:=Hd hi3;have nl:=Hd (lx.o.kept li);have HR3:=Hd (kS.o.kept li);have lq:=Hd (kX.o.trans li);have oo:=Hd (mb.o.kept li);clear hs3 hi3 li lx kS kX mb vu HP;have b0:w3.cell? ⟨B,0,none⟩=some (.string (bs id)):=nl.o.cell 0 _ rfl;have b1:w3.cell? ⟨B,1,none⟩=some (.slice a1 cls.length c1):=nl.o.cell 1 _ rfl;have b2:w3.cell? ⟨B,2,none⟩=some (.slice aP prs.length cP):=nl.o.cell 2 _ rfl;have f2:=nl.o.free 2;have bz:=nl.o.lt;have oO:Hi (Blk (w3.setCell ⟨B,2,none⟩ (.slice a3 prs.length c3)) B 39 #[.string (bs id),.slice a1 cls.length c1,.slice a3 prs.length c3]):=nl.o.set 2 _;have HR4:=Hd (HR3.o.other B 2 (.slice a3 prs.length c3) a_);have mg:=Hd (zbF lq.o B 2 (.slice a3 prs.length c3) xK);have qm:=Hd (oo.o.onlS HI1.o (bK B 2 (.slice a3 prs.length c3)) (fun g _ hs q=>by omega));have se:=Hd (uc.o.onlS HI3.o (bK B 2 (.slice a3 prs.length c3)) (fun g _ hs q=>by omega));clear nl HR3 lq oo uc;go_wp2_with (first
  | (refine zaJ d_ 39 (.tmp 1) d_ B _ d_ oO.o _ di rfl Tryz.sizeAt ?_)
  | (refine zaI rfl 39 (.tmp 2) (.tmp 11) d_ (B+1) _ #[.string (bs id),.slice a1 cls.length c1,.slice a3 prs.length c3] d_ d_ HR4.o rfl Tryz.sizeAt (by simp only[bZ,ci,dc];rfl) ?_;intro w9 ml mw;have r0:w9.cell? ⟨B+1,0,none⟩=some (.string (bs id)):=ml.cell 0 _ rfl;have r1:w9.cell? ⟨B+1,1,none⟩=some (.slice a1 cls.length c1):=ml.cell 1 _ rfl;have r2:w9.cell? ⟨B+1,2,none⟩=some (.slice a3 prs.length c3):=ml.cell 2 _ rfl;have rz:=ml.lt;have pm:=Hd (mg.o.trans' (mw.below mg.o.size (fun i e=>by rw[e];exact vv)));have Dl:=Hd (qm.o.onlS HI1.o mw (fun g _ hs q=>by omega));have Dm:=Hd (se.o.onlS HI3.o mw (fun g _ hs q=>by omega));clear ml mw))
 have lh:CatP id cls prs w (.returned (atV id (.slice a1 cls.length c1) (.slice a3 prs.length c3))) w9:=⟨_,_,rfl,⟨Dl.o,HI1.o.mono fun g _ _ q=>by omega⟩,⟨Dm.o,HI3.o.mono fun g _ _ q=>by omega⟩,pm.o⟩;refine bM (v:=atV id (.slice a1 cls.length c1) (.slice a3 prs.length c3)) ?_ rfl lh;simp [results,results60,go_sem,r0,r1,r2,rz]
end Go.Proofs.YtnldgmhdjancbaaGreatDoor

namespace Go.Proofs.YtnldgmhdjancbaaGreatDoor
open Go.RowKit Go.Sort Go.Proofs.Tryz
instance inhSorT:Inhabited SorT:=⟨⟨⟨[],0,[],[]⟩,⟨[],[],[],[],[]⟩⟩⟩
def zfN{d:Array SorT}{i:Nat}(h:i<d.size):d.toList[i]? = some d[i]! := by
 rw[bE,bY h,getElem!_pos d i h]
def zsB(d:Array SorT)(i j:Nat)(hi:i<d.size)(hj:j<d.size):(swp d i j).toList=(d.toList.set i d[j]!).set j d[i]! := by
 unfold swp;rw[fI,fI]
def zEI{d:Array SorT}{i j:Nat}(hi:i<d.size)(hj:j<d.size){p:SorT->Prop}(h:∀x∈d.toList,p x):∀x∈(swp d i j).toList,p x:=by
 intro x hx;rw[zsB d i j hi hj]at hx;have at_:∀i,i<d.size->p d[i]! := fun i q=>h _ (am (zfN q));rcases gZ hx with hx|rfl
 .rcases gZ hx with hx|rfl
  .exact h x hx
  .exact at_ j hj
 .exact at_ i hi
def SrtS(g lJ base:Nat)(A:Nat->Prop)(d':Array SorT)(w:World)(e:Ending)(w':World):Prop:=e=.returned (.tuple #[])/\OutG SorK 9 A base 110 w' (.slice (some ⟨g,0,none⟩) d'.size lJ) d'.toList/\Only (fun i=>i=g) w w'
def zyP(C C2 base:Nat)(A:Nat->Prop)(cf:SorT->SorT->Int)(good:SorT->Prop)(g lJ a b:Nat)(d:Array SorT)(w:World)(hO:OutG SorK 9 A base 110 w (.slice (some ⟨g,0,none⟩) d.size lJ) d.toList)(hg:∀x∈d.toList,good x)(hab:a<=b)(hb:b<=d.size)(ny:d.size<=1000000)(hcmp:∀(w':World) (cs ds:List Value) (x y:SorT),Only (fun i=>i=g) w w'->good x->good y->SorK (fun i=>A i/\g≠i) w' cs x->SorK (fun i=>A i/\g≠i) w' ds y->Calls prog 52 #[.agg cs.toArray,.agg ds.toArray,.pointer (some ⟨C,0,none⟩),.pointer (some ⟨C2,0,none⟩)] w' fun e w''=>e=.returned (.int .i64 (cf x y))/\Kept w' w''):Calls prog 127 #[.slice (some ⟨g,0,none⟩) d.size lJ,.int .i64 a,.int .i64 b,.func (.func 52) #[] #[.pointer (some ⟨C,0,none⟩),.pointer (some ⟨C2,0,none⟩)]] w (SrtS g lJ base A (insertionSort (ltS cf) d a b) w):=by
 have lh:Hi (∀(w':World) (dk:Array SorT),OutG SorK 9 A base 110 w' (.slice (some ⟨g,0,none⟩) d.size lJ) dk.toList->dk.size=d.size->Only (fun i=>i=g) w w'->insOuter (ltS cf) a b b dk=insOuter (ltS cf) a b (a+1) d->SrtS g lJ base A (insertionSort (ltS cf) d a b) w (.returned (.tuple #[])) w'):=by
  intro w' dk h1 h2 h3 h4;have h5:insertionSort (ltS cf) d a b=dk:=(by unfold insertionSort;rw[<- h4,fT _ _ _ _ _ (iB b)]);rw[h5];exact⟨rfl,by rw[h2];exact h1,h3⟩
 generalize hP:SrtS g lJ base A (insertionSort (ltS cf) d a b) w=P at *;have HC:=Hd hcmp;have HO:=Hd hO;have HG:=Hd hg;clear hcmp hO hg hP;go_in;go_wp2_with fail;go_loopw [8] (fun vi wr=>∃(i:Nat) (dk:Array SorT),vi=.int .i64 i/\a<i/\(i<=b\/i=a+1)/\dk.size=d.size/\Hi (OutG SorK 9 A base 110 wr (.slice (some ⟨g,0,none⟩) d.size lJ) dk.toList)/\Hi (Only (fun i=>i=g) w wr)/\Hi (∀x∈dk.toList,good x)/\Hi (insOuter (ltS cf) a b i dk=insOuter (ltS cf) a b (a+1) d)) (fun vi _=>b+1 - (intOf vi).toNat)
 .exact⟨a+1,d,by go_num,a_,.inr rfl,rfl,HO.o,bc (af w),HG.o,rfl⟩
 case round =>
  obtain⟨i,dk,rfl,hai,hib,hsk,qK,kO,lu,Dn⟩:=hrel;by_cases kV:i<b
  .have hltz:(i:Int)<(b:Int):=a_;go_wp2_with fail;obtain⟨wo,hwo⟩:∃wo:World,wo=wr:=⟨_,rfl⟩;rw[<- hwo]at qK kO;rw[<- hwo];go_loopw [9] (fun vj wr=>∃(j:Nat) (dj:Array SorT),vj=.int .i64 j/\a<=j/\j<=i/\dj.size=d.size/\Hi (OutG SorK 9 A base 110 wr (.slice (some ⟨g,0,none⟩) d.size lJ) dj.toList)/\Hi (Only (fun i=>i=g) w wr)/\Hi (∀x∈dj.toList,good x)/\Hi (insInner (ltS cf) a j dj=insInner (ltS cf) a i dk)) (fun vj _=>(intOf vj).toNat)
   .exact⟨i,dk,rfl,a_,aw _,hsk,qK.o,kO.o,lu.o,rfl⟩
   case round =>
    clear qK kO lu hwo;obtain⟨j,dj,rfl,haj,hji,hsj,Do,xL,Dp,FV⟩:=hrel;have OUT:Hi ((j<=a\/ltS cf dj[j]! dj[j - 1]! = false)->insOuter (ltS cf) a b (i+1) dj=insOuter (ltS cf) a b (a+1) d):=fun hs=>by
     rw[<- Dn.o,insOuter_go _ _ _ _ _ kV,<- FV.o,insInner_stop _ _ _ _ hs]
    by_cases hja:a<j
    .obtain⟨jp,zJ⟩:∃jp,Hi (j=jp+1):=⟨j - 1,Hd a_⟩;have hj1:j<dj.size:=a_;have hj2:jp<dj.size:=(by have:=zJ.o;omega);obtain⟨x,HX⟩:∃x,Hi (dj[j]! = x):=⟨_,rfl⟩;obtain⟨y,HY⟩:∃x,Hi (dj[jp]! = x):=⟨_,rfl⟩;have gx:=Dp.o _ (am (zfN hj1));have gy:=Dp.o _ (am (zfN hj2));obtain⟨g1,cx,e1,mX,hlt1,-,-,hlx,hcx,hrx⟩:=Do.o.at_ j _ (zfN hj1);obtain⟨g2,cy,e2,-,-,-,-,MN,hcy,Hg⟩:=Do.o.at_ jp _ (zfN hj2);cases e1;cases e2;have vw:Hi (j<=a\/ltS cf x y=false->insOuter (ltS cf) a b (i+1) dj=insOuter (ltS cf) a b (a+1) d):=fun h=>OUT.o (by
      rw[HX.o,show j - 1=jp by have:=zJ.o;omega,HY.o];exact h)
     have Dq:Hi (ltS cf x y=true->insInner (ltS cf) a jp (swp dj j jp)=insInner (ltS cf) a i dk):=fun h=>by
      have e:=zJ.o;rw[<- FV.o,insInner_go (ltS cf) a j dj hja (by rw[HX.o,show j - 1=jp by omega,HY.o];exact h),show j - 1=jp by omega]
     have Cv:Hi ((swp dj j jp).toList=(dj.toList.set j y).set jp x):=by
      have:=zsB dj j jp hj1 hj2;rw[HX.o,HY.o]at this;exact this
     have MO:Hi (∀x∈(swp dj j jp).toList,good x):=zEI hj1 hj2 Dp.o;rw[HX.o]at gx hrx;rw[HY.o]at gy Hg;have yq:=Hd hrx;have yu:=Hd Hg;obtain⟨vA,vE,vF,rfl,⟨hA,-⟩,⟨hE,-⟩,hF,-⟩:=hrx;obtain⟨Qq,Qr,Qs,rfl,⟨hA',-⟩,⟨hE',-⟩,hF',-⟩:=Hg;obtain⟨⟨author,year,title,key⟩,⟨np,nr,pa,pe,pf⟩⟩:=x;obtain⟨⟨nG,pS,oL,key'⟩,⟨pT,pU,pa',yv,yw⟩⟩:=y;simp only at hA hE hF hA' hE' hF';obtain⟨aA,cA,rfl,lA⟩:=hA.shape;obtain⟨aE,cE,rfl,lE⟩:=hE.shape;obtain⟨aF,cF,rfl,lF⟩:=hF.shape;obtain⟨ut,uu,rfl,Qt⟩:=hA'.shape;obtain⟨uv,uw,rfl,Qu⟩:=hE'.shape;obtain⟨ux,uy,rfl,Qv⟩:=hF'.shape;unfold zIR at hcx hcy yq yu;simp only at hcx hcy yq yu;obtain⟨op,qL⟩:∃op,jp * 9=op:=⟨_,rfl⟩;have qM:j * 9=op+9:=(by have:=zJ.o;omega);have x0:wr.cell? ⟨g,op+9,none⟩=some (.string (bs author)):=(by have:=hcx 0 _ rfl;rw[qM,dU]at this;exact this);have x1:wr.cell? ⟨g,op+10,none⟩=some (.int .i64 year):=(by have:=hcx 1 _ rfl;rw[qM,dU]at this;exact this);have x2:wr.cell? ⟨g,op+11,none⟩=some (.string (bs title)):=(by have:=hcx 2 _ rfl;rw[qM,dU]at this;exact this);have x3:wr.cell? ⟨g,op+12,none⟩=some (.string (bs key)):=(by have:=hcx 3 _ rfl;rw[qM,dU]at this;exact this);have x4:wr.cell? ⟨g,op+13,none⟩=some (.string (bs np)):=(by have:=hcx 4 _ rfl;rw[qM,dU]at this;exact this);have x5:wr.cell? ⟨g,op+14,none⟩=some (.string (bs nr)):=(by have:=hcx 5 _ rfl;rw[qM,dU]at this;exact this);have x6:wr.cell? ⟨g,op+15,none⟩=some (.slice aA pa.length cA):=(by have:=hcx 6 _ rfl;rw[qM,dU]at this;exact this);have x7:wr.cell? ⟨g,op+16,none⟩=some (.slice aE pe.length cE):=(by have:=hcx 7 _ rfl;rw[qM,dU]at this;exact this);have x8:wr.cell? ⟨g,op+17,none⟩=some (.slice aF pf.length cF):=(by have:=hcx 8 _ rfl;rw[qM,dU]at this;exact this);have y0:wr.cell? ⟨g,op,none⟩=some (.string (bs nG)):=(by have:=hcy 0 _ rfl;rw[qL]at this;exact this);have y1:wr.cell? ⟨g,op+1,none⟩=some (.int .i64 pS):=(by have:=hcy 1 _ rfl;rw[qL]at this;exact this);have y2:wr.cell? ⟨g,op+2,none⟩=some (.string (bs oL)):=(by have:=hcy 2 _ rfl;rw[qL]at this;exact this);have y3:wr.cell? ⟨g,op+3,none⟩=some (.string (bs key')):=(by have:=hcy 3 _ rfl;rw[qL]at this;exact this);have y4:wr.cell? ⟨g,op+4,none⟩=some (.string (bs pT)):=(by have:=hcy 4 _ rfl;rw[qL]at this;exact this);have y5:wr.cell? ⟨g,op+5,none⟩=some (.string (bs pU)):=(by have:=hcy 5 _ rfl;rw[qL]at this;exact this);have y6:wr.cell? ⟨g,op+6,none⟩=some (.slice ut pa'.length uu):=(by have:=hcy 6 _ rfl;rw[qL]at this;exact this);have y7:wr.cell? ⟨g,op+7,none⟩=some (.slice uv yv.length uw):=(by have:=hcy 7 _ rfl;rw[qL]at this;exact this);have y8:wr.cell? ⟨g,op+8,none⟩=some (.slice ux yw.length uy):=(by have:=hcy 8 _ rfl;rw[qL]at this;exact this);have hzg:g<wr.heap.size:=hlt1;have Bc:=Hd yq.o;have J7:=Hd yu.o;have wj:IntKind.i64.wrap ((j:Int) - 1)=(jp:Int):=(by rw[IntKind.wrap_i64];have:=zJ.o;omega);have HS:Hi (∀w',Kept wr w'->(w'.cell? ⟨g,op+9,none⟩=some (.string (bs author))/\w'.cell? ⟨g,op+10,none⟩=some (.int .i64 year)/\w'.cell? ⟨g,op+11,none⟩=some (.string (bs title))/\w'.cell? ⟨g,op+12,none⟩=some (.string (bs key))/\w'.cell? ⟨g,op+13,none⟩=some (.string (bs np))/\w'.cell? ⟨g,op+14,none⟩=some (.string (bs nr))/\w'.cell? ⟨g,op+15,none⟩=some (.slice aA pa.length cA)/\w'.cell? ⟨g,op+16,none⟩=some (.slice aE pe.length cE)/\w'.cell? ⟨g,op+17,none⟩=some (.slice aF pf.length cF))/\(w'.cell? ⟨g,op,none⟩=some (.string (bs nG))/\w'.cell? ⟨g,op+1,none⟩=some (.int .i64 pS)/\w'.cell? ⟨g,op+2,none⟩=some (.string (bs oL))/\w'.cell? ⟨g,op+3,none⟩=some (.string (bs key'))/\w'.cell? ⟨g,op+4,none⟩=some (.string (bs pT))/\w'.cell? ⟨g,op+5,none⟩=some (.string (bs pU))/\w'.cell? ⟨g,op+6,none⟩=some (.slice ut pa'.length uu)/\w'.cell? ⟨g,op+7,none⟩=some (.slice uv yv.length uw)/\w'.cell? ⟨g,op+8,none⟩=some (.slice ux yw.length uy))/\g<w'.heap.size/\Kept wr w'):=fun w' h=>⟨⟨(h.cell (p:=⟨g,op+9,none⟩) hzg).trans x0,(h.cell (p:=⟨g,op+10,none⟩) hzg).trans x1,(h.cell (p:=⟨g,op+11,none⟩) hzg).trans x2,(h.cell (p:=⟨g,op+12,none⟩) hzg).trans x3,(h.cell (p:=⟨g,op+13,none⟩) hzg).trans x4,(h.cell (p:=⟨g,op+14,none⟩) hzg).trans x5,(h.cell (p:=⟨g,op+15,none⟩) hzg).trans x6,(h.cell (p:=⟨g,op+16,none⟩) hzg).trans x7,(h.cell (p:=⟨g,op+17,none⟩) hzg).trans x8⟩,⟨(h.cell (p:=⟨g,op,none⟩) hzg).trans y0,(h.cell (p:=⟨g,op+1,none⟩) hzg).trans y1,(h.cell (p:=⟨g,op+2,none⟩) hzg).trans y2,(h.cell (p:=⟨g,op+3,none⟩) hzg).trans y3,(h.cell (p:=⟨g,op+4,none⟩) hzg).trans y4,(h.cell (p:=⟨g,op+5,none⟩) hzg).trans y5,(h.cell (p:=⟨g,op+6,none⟩) hzg).trans y6,(h.cell (p:=⟨g,op+7,none⟩) hzg).trans y7,(h.cell (p:=⟨g,op+8,none⟩) hzg).trans y8⟩,aU hzg h.size,h⟩;have q0:decide ((a:Int)<(j:Int))=true:=bJ a_;have MP:decide (a<j)=true:=bJ a_;have q1:(0:Int)<=(jp:Int):=a_;have q1':(0:Int)<=(j:Int):=a_;have q2:(j:Int)<(d.size:Int):=a_;have q3:(jp:Int)<(d.size:Int):=a_;have mA:=Hd (fun w' (k:Kept wr w')=>HC.o w' _ _ _ _ (xL.o.trans (bc k)) gx gy (zqR.sam Bc.o (cU k) (fun _ _ q=>q)) (zqR.sam J7.o (cU k) (fun _ _ q=>q)));obtain⟨r,HR⟩:=gX (cf ⟨⟨author,year,title,key⟩,⟨np,nr,pa,pe,pf⟩⟩ ⟨⟨nG,pS,oL,key'⟩,⟨pT,pU,pa',yv,yw⟩⟩);unfold ltS at vw Dq;rw[HR.o]at mA vw Dq;clear hA hE hF hA' hE' hF' gx gy hcx hcy hlx MN hlt1 mX yq yu;have hkd:Kept wr wr.drew:=zaB wr 1;by_cases hlv:r<0
     .have hl1:decide (r<0)=true:=bJ hlv;go_wp2_with fail
      go_region_held3 (fun w'=>(w'.cell? ⟨g,op+9,none⟩=some (.string (bs author))/\w'.cell? ⟨g,op+10,none⟩=some (.int .i64 year)/\w'.cell? ⟨g,op+11,none⟩=some (.string (bs title))/\w'.cell? ⟨g,op+12,none⟩=some (.string (bs key))/\w'.cell? ⟨g,op+13,none⟩=some (.string (bs np))/\w'.cell? ⟨g,op+14,none⟩=some (.string (bs nr))/\w'.cell? ⟨g,op+15,none⟩=some (.slice aA pa.length cA)/\w'.cell? ⟨g,op+16,none⟩=some (.slice aE pe.length cE)/\w'.cell? ⟨g,op+17,none⟩=some (.slice aF pf.length cF))/\(w'.cell? ⟨g,op,none⟩=some (.string (bs nG))/\w'.cell? ⟨g,op+1,none⟩=some (.int .i64 pS)/\w'.cell? ⟨g,op+2,none⟩=some (.string (bs oL))/\w'.cell? ⟨g,op+3,none⟩=some (.string (bs key'))/\w'.cell? ⟨g,op+4,none⟩=some (.string (bs pT))/\w'.cell? ⟨g,op+5,none⟩=some (.string (bs pU))/\w'.cell? ⟨g,op+6,none⟩=some (.slice ut pa'.length uu)/\w'.cell? ⟨g,op+7,none⟩=some (.slice uv yv.length uw)/\w'.cell? ⟨g,op+8,none⟩=some (.slice ux yw.length uy))/\g<w'.heap.size/\Kept wr w')
       ((refine HS.o _ ?_;assumption))
       (first|(go_at_call 52;refine(mA.o _ (by assumption)).mono ?_;rintro e w5 ⟨rfl,lU⟩;have kz:Kept wr w5:=dq (by assumption) lU;have KZ:=Hd kz;clear lU))
      clear HS mA;have oF:=Hd (Do.o.kept zqR KZ.o);have Dr:=Hd (zqR.sam Bc.o (cU KZ.o) (fun _ _ q=>q));have Ds:=Hd (zqR.sam J7.o (cU KZ.o) (fun _ _ q=>q));have rd:∀i,i<9->w5.frozen? ⟨g,op+(9+i),none⟩=false:=fun i hi=>by
       have:=(oF.o.there j (by rw[dD];omega) i hi).2;rw[qM,dU]at this;exact this
      have re:∀i,i<9->w5.frozen? ⟨g,op+i,none⟩=false:=fun i hi=>by
       have:=(oF.o.there jp (by rw[dD];omega) i hi).2;rw[qL]at this;exact this
      have z0:w5.cell? ⟨g,op+9,none⟩=some (.string (bs author)):=(KZ.o.cell (p:=⟨g,op+9,none⟩) hzg).trans x0;have z1:w5.cell? ⟨g,op+10,none⟩=some (.int .i64 year):=(KZ.o.cell (p:=⟨g,op+10,none⟩) hzg).trans x1;have z2:w5.cell? ⟨g,op+11,none⟩=some (.string (bs title)):=(KZ.o.cell (p:=⟨g,op+11,none⟩) hzg).trans x2;have z3:w5.cell? ⟨g,op+12,none⟩=some (.string (bs key)):=(KZ.o.cell (p:=⟨g,op+12,none⟩) hzg).trans x3;have z4:w5.cell? ⟨g,op+13,none⟩=some (.string (bs np)):=(KZ.o.cell (p:=⟨g,op+13,none⟩) hzg).trans x4;have z5:w5.cell? ⟨g,op+14,none⟩=some (.string (bs nr)):=(KZ.o.cell (p:=⟨g,op+14,none⟩) hzg).trans x5;have z6:w5.cell? ⟨g,op+15,none⟩=some (.slice aA pa.length cA):=(KZ.o.cell (p:=⟨g,op+15,none⟩) hzg).trans x6;have z7:w5.cell? ⟨g,op+16,none⟩=some (.slice aE pe.length cE):=(KZ.o.cell (p:=⟨g,op+16,none⟩) hzg).trans x7;have z8:w5.cell? ⟨g,op+17,none⟩=some (.slice aF pf.length cF):=(KZ.o.cell (p:=⟨g,op+17,none⟩) hzg).trans x8;have u0:w5.cell? ⟨g,op,none⟩=some (.string (bs nG)):=(KZ.o.cell (p:=⟨g,op,none⟩) hzg).trans y0;have u1:w5.cell? ⟨g,op+1,none⟩=some (.int .i64 pS):=(KZ.o.cell (p:=⟨g,op+1,none⟩) hzg).trans y1;have u2:w5.cell? ⟨g,op+2,none⟩=some (.string (bs oL)):=(KZ.o.cell (p:=⟨g,op+2,none⟩) hzg).trans y2;have u3:w5.cell? ⟨g,op+3,none⟩=some (.string (bs key')):=(KZ.o.cell (p:=⟨g,op+3,none⟩) hzg).trans y3;have u4:w5.cell? ⟨g,op+4,none⟩=some (.string (bs pT)):=(KZ.o.cell (p:=⟨g,op+4,none⟩) hzg).trans y4;have u5:w5.cell? ⟨g,op+5,none⟩=some (.string (bs pU)):=(KZ.o.cell (p:=⟨g,op+5,none⟩) hzg).trans y5;have u6:w5.cell? ⟨g,op+6,none⟩=some (.slice ut pa'.length uu):=(KZ.o.cell (p:=⟨g,op+6,none⟩) hzg).trans y6;have u7:w5.cell? ⟨g,op+7,none⟩=some (.slice uv yv.length uw):=(KZ.o.cell (p:=⟨g,op+7,none⟩) hzg).trans y7;have u8:w5.cell? ⟨g,op+8,none⟩=some (.slice ux yw.length uy):=(KZ.o.cell (p:=⟨g,op+8,none⟩) hzg).trans y8;have MQ:w5.frozen? ⟨g,op+9,none⟩=false:=rd 0 a_;have MR:w5.frozen? ⟨g,op+10,none⟩=false:=rd 1 a_;have MS:w5.frozen? ⟨g,op+11,none⟩=false:=rd 2 a_;have MT:w5.frozen? ⟨g,op+12,none⟩=false:=rd 3 a_;have MU:w5.frozen? ⟨g,op+13,none⟩=false:=rd 4 a_;have MV:w5.frozen? ⟨g,op+14,none⟩=false:=rd 5 a_;have MW:w5.frozen? ⟨g,op+15,none⟩=false:=rd 6 a_;have MX:w5.frozen? ⟨g,op+16,none⟩=false:=rd 7 a_;have MY:w5.frozen? ⟨g,op+17,none⟩=false:=rd 8 a_;have MZ:w5.frozen? ⟨g,op,none⟩=false:=re 0 a_;have M0:w5.frozen? ⟨g,op+1,none⟩=false:=re 1 a_;have M1:w5.frozen? ⟨g,op+2,none⟩=false:=re 2 a_;have M2:w5.frozen? ⟨g,op+3,none⟩=false:=re 3 a_;have M3:w5.frozen? ⟨g,op+4,none⟩=false:=re 4 a_;have M4:w5.frozen? ⟨g,op+5,none⟩=false:=re 5 a_;have M5:w5.frozen? ⟨g,op+6,none⟩=false:=re 6 a_;have M6:w5.frozen? ⟨g,op+7,none⟩=false:=re 7 a_;have M7:w5.frozen? ⟨g,op+8,none⟩=false:=re 8 a_;clear rd re;go_wp2_with fail;go_region;clear z0 u0 MQ MZ z1 u1 MR M0 z2 u2 MS M1 z3 u3 MT M2 z4 u4 MU M3 z5 u5 MV M4 z6 u6 MW M5 z7 u7 MX M6 z8 u8 MY M7;generalize hW:World.drew _=w8;have hW2:((w5.setCells g (op+9) [.string (bs nG),.int .i64 pS,.string (bs oL),.string (bs key'),.string (bs pT),.string (bs pU),.slice ut pa'.length uu,.slice uv yv.length uw,.slice ux yw.length uy]).setCells g op [.string (bs author),.int .i64 year,.string (bs title),.string (bs key),.string (bs np),.string (bs nr),.slice aA pa.length cA,.slice aE pe.length cE,.slice aF pf.length cF]).drew=w8:=hW;clear hW;have pn:=oF.o.put zqR j (by rw[dD];exact hj1) [.string (bs nG),.int .i64 pS,.string (bs oL),.string (bs key'),.string (bs pT),.string (bs pU),.slice ut pa'.length uu,.slice uv yv.length uw,.slice ux yw.length uy] _ rfl Ds.o;rw[qM]at pn;have Dt:=zqR.sam Dr.o (cm (zc3 [.string (bs nG),.int .i64 pS,.string (bs oL),.string (bs key'),.string (bs pT),.string (bs pU),.slice ut pa'.length uu,.slice uv yv.length uw,.slice ux yw.length uy] (op+9) w5) (fun _ _ q h=>q.2 h.symm)) (fun _ _ q=>q);have qB:=pn.put zqR jp (by rw[List.length_set,dD];exact hj2) [.string (bs author),.int .i64 year,.string (bs title),.string (bs key),.string (bs np),.string (bs nr),.slice aA pa.length cA,.slice aE pe.length cE,.slice aF pf.length cF] _ rfl Dt;rw[qL,<- Cv.o]at qB;have sY:Hi (OutG SorK 9 A base 110 w8 (.slice (some ⟨g,0,none⟩) d.size lJ) (swp dj j jp).toList):=(by rw[<- hW2];exact qB.kept zqR (zaB _ 1));have pk:Hi (Only (fun i=>i=g) w w8):=by
       rw[<- hW2];exact(xL.o.trans (bc KZ.o)).trans (((zc3 _ _ _).trans (zc3 _ _ _)).trans (bc (zaB _ 1)))
      have FW:=Hd (Dq.o hl1);have Hh:(swp dj j jp).size=d.size:=(by rw[size_swp];exact hsj);clear pn Dt qB hW2 oF Dr Ds Cv Dq OUT vw;go_wp2;go_roundw
      .exact⟨jp,swp dj j jp,rfl,by have:=zJ.o;omega,by have:=zJ.o;omega,Hh,sY.o,pk.o,MO.o,FW.o⟩
      .have:=zJ.o;simp [intOf];omega
     .have hl1:decide (r<0)=false:=bH hlv;go_wp2_with fail
      go_region_held3 (fun w'=>(w'.cell? ⟨g,op+9,none⟩=some (.string (bs author))/\w'.cell? ⟨g,op+10,none⟩=some (.int .i64 year)/\w'.cell? ⟨g,op+11,none⟩=some (.string (bs title))/\w'.cell? ⟨g,op+12,none⟩=some (.string (bs key))/\w'.cell? ⟨g,op+13,none⟩=some (.string (bs np))/\w'.cell? ⟨g,op+14,none⟩=some (.string (bs nr))/\w'.cell? ⟨g,op+15,none⟩=some (.slice aA pa.length cA)/\w'.cell? ⟨g,op+16,none⟩=some (.slice aE pe.length cE)/\w'.cell? ⟨g,op+17,none⟩=some (.slice aF pf.length cF))/\(w'.cell? ⟨g,op,none⟩=some (.string (bs nG))/\w'.cell? ⟨g,op+1,none⟩=some (.int .i64 pS)/\w'.cell? ⟨g,op+2,none⟩=some (.string (bs oL))/\w'.cell? ⟨g,op+3,none⟩=some (.string (bs key'))/\w'.cell? ⟨g,op+4,none⟩=some (.string (bs pT))/\w'.cell? ⟨g,op+5,none⟩=some (.string (bs pU))/\w'.cell? ⟨g,op+6,none⟩=some (.slice ut pa'.length uu)/\w'.cell? ⟨g,op+7,none⟩=some (.slice uv yv.length uw)/\w'.cell? ⟨g,op+8,none⟩=some (.slice ux yw.length uy))/\g<w'.heap.size/\Kept wr w')
       ((refine HS.o _ ?_;assumption))
       (first|(go_at_call 52;refine(mA.o _ (by assumption)).mono ?_;rintro e w5 ⟨rfl,lU⟩;have kz:Kept wr w5:=dq (by assumption) lU;have KZ:=Hd kz;clear lU))
      clear HS mA;have oF:=Hd (Do.o.kept zqR KZ.o);have lX:Hi (Only (fun i=>i=g) w w5):=xL.o.trans (bc KZ.o);have Hj:=Hd (vw.o (.inr hl1));clear OUT vw Dq Cv;go_wp2;go_roundw
      .exact⟨i+1,dj,by go_num,a_,.inl a_,hsj,oF.o,lX.o,Dp.o,Hj.o⟩
      .simp [intOf];omega
    .have q0:decide ((a:Int)<(j:Int))=false:=bH a_;have MP:decide (a<j)=false:=bH hja;have Hj:=Hd (OUT.o (.inl a_));clear OUT;go_wp2_with fail
     go_quiet (fail)
     go_wp2;go_roundw
     .exact⟨i+1,dj,by go_num,a_,.inl a_,hsj,Do.o.kept zqR (zaB wr _),xL.o.trans (bc (zaB wr _)),Dp.o,Hj.o⟩
     .simp [intOf];omega
  .have hltz:¬ (i:Int)<(b:Int):=a_;have HF:=Hd (lh.o wr dk qK.o hsk kO.o (by rw[<- Dn.o,fT _ _ _ _ _ kV,fT _ _ _ _ _ (iB b)]));go_wp2_with fail
   go_end0
   exact HF.o
def zyQ(v fv:Value)(w:World):Calls prog 127 #[v,.int .i64 0,.int .i64 0,fv] w fun e w'=>e=.returned (.tuple #[])/\w'=w:=by
 go_in;go_wp2_with fail;go_loopw [8] (fun vi wr=>vi=.int .i64 1/\w=wr) (fun _ _=>0)
 .exact⟨rfl,rfl⟩
 case round =>
  obtain⟨rfl,rfl⟩:=hrel;go_wp2_with fail
  go_end0
  exact⟨rfl,rfl⟩
def zAb(cf:SorT->SorT->Int)(xs:List SorT):List SorT:=(insertionSort (ltS cf) xs.toArray 0 xs.length).toList
def zhR(lt:SorT->SorT->Bool)(a:Nat):∀(j:Nat) (d:Array SorT),(insInner lt a j d).size=d.size
 | 0,d=>rfl
 | j+1,d=>by
  unfold insInner
  split
  .rw[zhR lt a j,size_swp]
  .rfl
def zhS(lt:SorT->SorT->Bool)(a b:Nat):∀(n i:Nat) (d:Array SorT),b - i<=n->(insOuter lt a b i d).size=d.size
 | 0,i,d,h=>by rw[fT _ _ _ _ _ a_]
 | n+1,i,d,h=>by
  by_cases q:i<b
  .rw[insOuter_go _ _ _ _ _ q,zhS lt a b n (i+1) _ a_,zhR]
  .rw[fT _ _ _ _ _ q]
def zpQ(cf:SorT->SorT->Int)(xs:List SorT):(zAb cf xs).length=xs.length:=by
 unfold zAb insertionSort;rw[dD,zhS _ _ _ _ _ _ (aw _),dQ]
def zEJ(cf:SorT->SorT->Int):zAb cf []=[]:=bD.1 (zpQ cf [])
def SrsS(base:Nat)(A:Nat->Prop)(v:Value)(zs:List SorT)(w:World)(e:Ending)(w':World):Prop:=e=.returned (.tuple #[])/\OutG SorK 9 A base 110 w' v zs/\Only (fun i=>v.ownBlock=some i) w w'
def zBD(C C2 base:Nat)(A:Nat->Prop)(cf:SorT->SorT->Int)(good:SorT->Prop)(v:Value)(xs:List SorT)(w:World)(hO:OutG SorK 9 A base 110 w v xs)(hg:∀x∈xs,good x)(hl:xs.length<=19)(hcmp:∀(w':World) (cs ds:List Value) (x y:SorT),Only (fun i=>v.ownBlock=some i) w w'->good x->good y->SorK (fun i=>A i/\v.ownBlock≠some i) w' cs x->SorK (fun i=>A i/\v.ownBlock≠some i) w' ds y->Calls prog 52 #[.agg cs.toArray,.agg ds.toArray,.pointer (some ⟨C,0,none⟩),.pointer (some ⟨C2,0,none⟩)] w' fun e w''=>e=.returned (.int .i64 (cf x y))/\Kept w' w''):Calls prog 91 #[v,.int .i64 xs.length,.func (.func 52) #[] #[.pointer (some ⟨C,0,none⟩),.pointer (some ⟨C2,0,none⟩)]] w (SrsS base A v (zAb cf xs) w):=by
 have HS:Hi (Calls prog 127 #[v,.int .i64 0,.int .i64 xs.length,.func (.func 52) #[] #[.pointer (some ⟨C,0,none⟩),.pointer (some ⟨C2,0,none⟩)]] w (SrsS base A v (zAb cf xs) w)):=by
  by_cases hn:xs.length=0
  .obtain rfl:xs=[]:=bD.1 hn;refine(zyQ v _ w).mono ?_;rintro e w' ⟨rfl,rfl⟩;rw[zEJ];exact⟨rfl,hO,bc (af _)⟩
  .obtain⟨a,c,rfl,hc,hm⟩:=hO.form;obtain⟨g,cs,rfl,-⟩:=hO.at_ 0 xs[0] (ac a_);have e0:∀i,(Value.slice (some ⟨g,0,none⟩) xs.length c).ownBlock=some i↔i=g:=fun i=>by
    constructor
    .intro h;have:g=i:=(by simpa [Value.ownBlock]using h);exact this.symm
    .rintro rfl;rfl
   have e1:(fun i=>A i/\(Value.slice (some ⟨g,0,none⟩) xs.length c).ownBlock≠some i)=(fun i=>A i/\g≠i):=by
    funext i;simp [Value.ownBlock]
   have e2:(fun i=>(Value.slice (some ⟨g,0,none⟩) xs.length c).ownBlock=some i)=(fun i=>i=g):=by
    funext i;exact propext (e0 i)
   have:=zyP C C2 base A cf good g c 0 xs.length xs.toArray w (by simpa using hO) (by simpa using hg) (ai _) b_ e_ (fun w' cs ds x y h1 h2 h3 h4 h5=>hcmp w' cs ds x y (by rw[e2];exact h1) h2 h3 (by rw[e1];exact h4) (by rw[e1];exact h5));refine Calls.mono (by simpa using this) ?_;rintro e w' ⟨r1,r2,r3⟩;refine⟨r1,?_,by rw[e2];exact r3⟩;have hz:(insertionSort (ltS cf) xs.toArray 0 xs.length).size=xs.length:=by
    have:=zpQ cf xs;unfold zAb at this;rwa [dD]at this
   rw[hz]at r2;exact r2
 have mb:Hi (Calls prog 127 #[v,.int .i64 0,.int .i64 xs.length,.func (.func 52) #[] #[.pointer (some ⟨C,0,none⟩),.pointer (some ⟨C2,0,none⟩)]] w (fun e w'=>e=.returned (.tuple #[])/\Hi (SrsS base A v (zAb cf xs) w (.returned (.tuple #[])) w'))):=by
  refine HS.o.mono ?_;rintro e w' ⟨rfl,h2,h3⟩;exact⟨rfl,rfl,h2,h3⟩
 have hl':(xs.length:Int)<=19:=a_;clear HS;generalize hQ:SrsS base A v (zAb cf xs) w=Q at *;clear hO hg hcmp hQ;have q1:decide ((20:Int)<=(xs.length:Int))=false:=bH a_;have q2:decide ((20:Int)<(xs.length:Int))=false:=bH a_;have q1':decide (20<=xs.length)=false:=bH a_;have q2':decide (20<xs.length)=false:=bH a_;go_in;go_wp2_with fail;go_loopw [7,8] (fun va vb wr=>va=.int .i64 0/\vb=.int .i64 20/\w=wr) (fun _ _ _=>0)
 .exact⟨rfl,rfl,rfl⟩
 case round =>
  obtain⟨rfl,rfl,rfl⟩:=hrel;go_wp2_with fail;refine k_ mb.o fun w1 HQ=>?_;clear mb;go_wp2_with fail;go_loopw [6,7,8,9] (fun v6 v7 v8 v9 wr=>v6=.int .i64 20/\w1=wr) (fun _ _ _ _ _=>0)
  .exact⟨rfl,rfl⟩
  case round =>
   obtain⟨rfl,rfl⟩:=hrel;go_wp2_with fail
   go_end0
   exact HQ.o
def zyR(C C2 base:Nat)(A:Nat->Prop)(cf:SorT->SorT->Int)(good:SorT->Prop)(v:Value)(xs:List SorT)(w:World)(hO:OutG SorK 9 A base 110 w v xs)(hg:∀x∈xs,good x)(hl:xs.length<=19)(hcmp:∀(w':World) (cs ds:List Value) (x y:SorT),Only (fun i=>v.ownBlock=some i) w w'->good x->good y->SorK (fun i=>A i/\v.ownBlock≠some i) w' cs x->SorK (fun i=>A i/\v.ownBlock≠some i) w' ds y->Calls prog 52 #[.agg cs.toArray,.agg ds.toArray,.pointer (some ⟨C,0,none⟩),.pointer (some ⟨C2,0,none⟩)] w' fun e w''=>e=.returned (.int .i64 (cf x y))/\Kept w' w''):Calls prog 51 #[v,.func (.func 52) #[] #[.pointer (some ⟨C,0,none⟩),.pointer (some ⟨C2,0,none⟩)]] w (SrsS base A v (zAb cf xs) w):=by
 have HS:=Hd (zBD C C2 base A cf good v xs w hO hg hl hcmp);obtain⟨a,c,rfl,-⟩:=hO.form;unfold SrsS at HS ⊢;clear hO hg hcmp;go_in;go_wp2_with fail;refine HS.o.mono ?_;rintro e w1 ⟨rfl,h2,h3⟩;go_wp2_with fail
 go_end0
 exact⟨rfl,h2,h3⟩
end Go.Proofs.YtnldgmhdjancbaaGreatDoor

namespace Go.Proofs.YtnldgmhdjancbaaGreatDoor
open Go.RowKit Go.Proofs.Tryz
def IntsQ(xs:List Int)(w:World)(e:Ending)(w':World):Prop:=∃v,e=.returned v/\Ints w' v xs/\(∀g,v.ownBlock=some g->w.heap.size<=g)/\Kept w w'
def zuG(l:Bs)(w:World)(hl:l.length<=1100000):Calls prog 172 #[.string (bs l)] w (IntsQ (zeP l) w):=by
 obtain⟨i0,hi,mr,mq,mm⟩:=cg Tryz.infoInt;have H0:Hi (zeP l=[]++ztZ l 0):=(by show _=_;rw[zl0];rfl);unfold IntsQ;go_in;go_wp2_with (at_make;refine wpList_make_own _ rfl _ _ 178 rfl w.heap.size 3 i0 (.int .i64 0) 1 ew hi mr mq .i64 .i64 l.length l.length rfl rfl rfl (by rw[mm];omega) h_ b_ ?_;intro w1 lc lw);have kT:Kept w w1:=Below.grown (gc _ _) lw (aw _) (fun j hj=>by cases hj);have hs1:w.heap.size<=w1.heap.size:=kT.size;go_loopw [3] (fun v wr=>∃(pos:Nat) (xs:List Int),pos<=l.length/\wr.heap[w1.heap.size]? = some (.stringIter (bs l) pos)/\wr.ownsRow w.heap.size 3 1 v xs.length (zAF xs)/\Hi (zeP l=xs++ztZ l pos)/\xs.length<=pos/\Kept w wr) (fun _ wr=>l.length - wr.iterPos w1.heap.size)
 .exact⟨0,[],ai _,eQ _ _ _,za1 lc (zaA _ _),H0,aw _,kT.trans (zaA _ _)⟩
 case round =>
  clear lc lw;obtain⟨pos,xs,hp,mz,lc,HA,hxl,hk⟩:=hrel;have sr:wr.iterPos w1.heap.size=pos:=(by simp [World.iterPos,mz]);have ny:w1.heap.size<wr.heap.size:=by
   rcases bG w1.heap.size wr.heap.size with q|q
   .exact q
   .rw[bB q]at mz;cases mz
  by_cases kV:pos<l.length
  .have nx:=fun ty=>zc2 (P:=prog) wr w1.heap.size (bs l) pos ty mz kV;have hb:=zaX (bs l) pos kV;have HP:=Hd (zo4 l pos kV);have oV:(wr.iterAt w1.heap.size (bs l) (pos+(dec (bs l) pos).2.toNat)).heap[w1.heap.size]? = some (.stringIter (bs l) (pos+(dec (bs l) pos).2.toNat)):=fy wr w1.heap.size (bs l) pos _ mz;have hkW:Kept w (wr.iterAt w1.heap.size (bs l) (pos+(dec (bs l) pos).2.toNat)):=fj hk hs1 (bs l) _;have rB:=zhX lc mz (bs l) (pos+(dec (bs l) pos).2.toNat);have lV:=zhW lc mz;have tS:(wr.iterAt w1.heap.size (bs l) (pos+(dec (bs l) pos).2.toNat)).heap.size=wr.heap.size:=eV ..;obtain⟨c,n,hd⟩:∃c n,dec (bs l) pos=(c,n):=⟨(dec (bs l) pos).1,(dec (bs l) pos).2,rfl⟩;rw[hd]at nx hb HP oV hkW rB tS;simp only at nx hb HP oV hkW rB tS;obtain⟨b1,b2,b3,b4,b5⟩:=hb;simp only[zdZ]at b5;obtain⟨W,HW⟩:=gX (wr.iterAt w1.heap.size (bs l) (pos+n.toNat));simp only[HW.o]at nx oV hkW rB tS;have sx:=Hd oV;have lD:=Hd hkW;have uU:=Hd lV;have ob:=Hd sr;have hszW:w1.heap.size<W.heap.size:=a_;have Md:w.heap.size<=W.heap.size:=a_;clear oV hkW hd sr mz hk lc lV tS;go_wp2_with (at_builtin;refine cV _ rfl _ _ 178 rfl w.heap.size 3 i0 (.int .i64 0) 1 8 ew hi mr mq mm rfl c_ _ _ _ rfl (rB.alloc _) ⟨W.heap.size,0,none⟩ 1 1 [.int .i64 c] rfl rfl ?_ ?_ ?_ ?_ ?_ ?_)
   .exact zbO _ #[.int .i64 c] _ _ b_
   .intro u hu;simp at hu;subst hu;rfl
   .unfold maxLen;omega
   .omega
   .simp;omega
   intro v' w2 lr mG _;have lx:=Hd ((lD.o.trans (zaA W _)).trans' (za2 (rB.alloc _) mG e_));have hit2:w2.heap[w1.heap.size]? = some (.stringIter (bs l) (pos+n.toNat)):=by
    rw[mG.block w1.heap.size e_ uU.o,Below.heap_alloc _ _ _ hszW];exact sx.o
   have oM:=Hd hit2;rw[<- ziL]at lr;have HO:=Hd lr;clear lr mG rB hit2;go_wp2;go_roundw
   .exact⟨pos+n.toNat,xs++[c],a_,oM.o,by simpa using HO.o,by show _=_;rw[HA.o,HP.o];simp,e_,lx.o⟩
   .rw[ob.o];have:=oM.o;simp [World.iterPos,this];omega
  .have nx:=fun ty=>zbM (P:=prog) wr w1.heap.size (bs l) pos ty mz kV;have HI:=Hd (Ints.own lc);have ud:=Hd (fun g h=>(lc.lt g h).1);have HL:Hi (zeP l=xs):=by
    show _=_;rw[HA.o,ziJ l pos kV,bN]
   have HK:=Hd hk;clear lc hk;go_wp2;go_ret;exact⟨_,rfl,by rw[HL.o];exact HI.o,ud.o,HK.o⟩
def Tryz.zeroInt(w:World):(zeroValue 3).run prog w=.ok (.int .i64 0) w:=g_
def Tryz.zeroInts(w:World):(zeroValue 178).run prog w=.ok (.slice none 0 0) w:=g_
def ValsR.onl{w w':World}{es es':List (Int×Value)}{c:ColT}{m:Nat}(h:ValsR w es c)(hm:MapV w m es')(k:Only (fun i=>i=m) w w'):ValsR w' es c:=fun x=>by
 have:=h x;cases hv:znY c x with
 | none=>rw[hv]at this;exact this
 | some ys =>
  rw[hv]at this;obtain⟨v,h1,h2⟩:=this;exact⟨v,h1,h2.map hm k⟩
def zsC{w:World}{es:List (Int×Value)}{c c':ColT}(h:ValsR w es c)(he:∀x,znY c' x=znY c x):ValsR w es c':=fun x=>by rw[he x];exact h x
def zBE{w:World}{es:List (Int×Value)}{rs:List Pr}{o:List Bs}{i:Bs}(h:ValsR w es ⟨rs,o,i⟩)(p:Pr)(hp:(zeP p.1).length≠1):ValsR w es ⟨rs++[p],o,i⟩ :=
 zsC h fun x=>by
  rw[zl1];cases znY ⟨rs,o,i⟩ x with
  | some ys=>rfl
  | none =>
   simp only;rw[aa (fun q=>hp (by rw[q];rfl))]
def zEK{w:World}{es:List (Int×Value)}{rs:List Pr}{o:List Bs}{i:Bs}(h:ValsR w es ⟨rs,o,i⟩)(p:Pr)(x:Int)(u:Value)(hp:zeP p.1=[x])(hx:zdL es x=some u):ValsR w es ⟨rs++[p],o,i⟩ :=
 zsC h fun y=>by
  rw[zl1];cases hv:znY ⟨rs,o,i⟩ y with
  | some ys=>rfl
  | none =>
   simp only;rw[aa];intro q;rw[hp]at q;obtain rfl:x=y:=(by simpa using q);have:=h x;rw[hv]at this;rw[hx]at this;cases this
def zEL{w:World}{es:List (Int×Value)}{rs:List Pr}{o:List Bs}{i:Bs}(h:ValsR w es ⟨rs,o,i⟩)(p:Pr)(x:Int)(v:Value)(hp:zeP p.1=[x])(hx:zdL es x=none)(hv:Ints w v (zeP p.2)):ValsR w (es++[(x,v)]) ⟨rs++[p],o,i⟩:=fun y=>by
 have hy:=h y;rw[zl1,ziM];cases hw:znY ⟨rs,o,i⟩ y with
 | some ys =>
  rw[hw]at hy;obtain⟨u,h1,h2⟩:=hy;exact⟨u,by rw[h1],h2⟩
 | none =>
  rw[hw]at hy;simp only at hy ⊢;rw[hy,hp];by_cases q:x=y
  .subst q;rw[ae rfl,ae rfl];exact⟨v,rfl,hv⟩
  .rw[aa (by simpa using q),aa q]
abbrev zEM:Array Value:=#[.map none,.map none,.map none,.int .i64 0]
def ValsF(es:List (Int×Value))(B:Nat):Prop:=∀x v,zdL es x=some v->∀g,v.ownBlock=some g->B<=g
def ValsF.nil(B:Nat):ValsF [] B:=fun x v h=>by
 have e:zdL [] x=none:=rfl;rw[e]at h;cases h
def ValsF.push{es:List (Int×Value)}{B:Nat}(h:ValsF es B)(x:Int)(v:Value)(hv:∀g,v.ownBlock=some g->B<=g):ValsF (es++[(x,v)]) B:=fun y u hu=>by
 rw[ziM]at hu;cases hy:zdL es y with
 | some u'=>rw[hy]at hu;cases hu;exact h y u hy
 | none =>
  rw[hy]at hu;simp only at hu
  split at hu
  .cases hu;exact hv
  .cases hu
def ValsR.blk{w w':World}{es:List (Int×Value)}{c:ColT}{b B:Nat}(h:ValsR w es c)(hf:ValsF es B)(hb:b<B)(k:Only (fun i=>i=b) w w'):ValsR w' es c:=fun x=>by
 have:=h x;cases hv:znY c x with
 | none=>rw[hv]at this;exact this
 | some ys =>
  rw[hv]at this;obtain⟨v,h1,h2⟩:=this;have hg:=hf x v h1;refine⟨v,h1,h2.only k (fun g e=>.inr (fun o n cc q=>?_))⟩;have:=hg g (by rw[q];rfl);omega
structure TS (w:World) (B:Nat) (vR vO:Value) (ig:Bs) (n:Nat) (e1 e2 e3:List (Int×Value)):Prop where
 box:Blk w B 112 #[vR,vO,.string (bs ig)]
 res:Blk w (B+1) 201 zEM
 m1:MapV w (B+1+1) e1
 m2:MapV w (B+1+1+1) e2
 m3:MapV w (B+1+1+1+1) e3
 tab:Blk w (B+1+1+1+1+1) 201 #[.map (some (B+1+1)),.map (some (B+1+1+1)),.map (some (B+1+1+1+1)),.int .i64 n]
def TS.kept{w w':World}{B:Nat}{vR vO:Value}{ig:Bs}{n:Nat}{e1 e2 e3:List (Int×Value)}(h:TS w B vR vO ig n e1 e2 e3)(k:Kept w w'):TS w' B vR vO ig n e1 e2 e3 :=
 ⟨h.box.kept k,h.res.kept k,h.m1.kept k,h.m2.kept k,h.m3.kept k,h.tab.kept k⟩
def TS.put1{w:World}{B:Nat}{vR vO:Value}{ig:Bs}{n:Nat}{e1 e2 e3:List (Int×Value)}(h:TS w B vR vO ig n e1 e2 e3)(e:List (Int×Value)):TS (zo3 w (B+1+1) e) B vR vO ig n e e2 e3 :=
 have o:=zc7 w (B+1+1) e
 ⟨h.box.onl o a_,h.res.onl o a_,ziI w _ e h.m1.lt,h.m2.only o a_,h.m3.only o a_,h.tab.onl o a_⟩
def TS.put2{w:World}{B:Nat}{vR vO:Value}{ig:Bs}{n:Nat}{e1 e2 e3:List (Int×Value)}(h:TS w B vR vO ig n e1 e2 e3)(e:List (Int×Value)):TS (zo3 w (B+1+1+1) e) B vR vO ig n e1 e e3 :=
 have o:=zc7 w (B+1+1+1) e
 ⟨h.box.onl o a_,h.res.onl o a_,h.m1.only o a_,ziI w _ e h.m2.lt,h.m3.only o a_,h.tab.onl o a_⟩
def TS.put3{w:World}{B:Nat}{vR vO:Value}{ig:Bs}{n:Nat}{e1 e2 e3:List (Int×Value)}(h:TS w B vR vO ig n e1 e2 e3)(e:List (Int×Value)):TS (zo3 w (B+1+1+1+1) e) B vR vO ig n e1 e2 e :=
 have o:=zc7 w (B+1+1+1+1) e
 ⟨h.box.onl o a_,h.res.onl o a_,h.m1.only o a_,h.m2.only o a_,ziI w _ e h.m3.lt,h.tab.onl o a_⟩
def TabR(w:World)(v:Value)(c:ColT):Prop:=∃m1 m2 m3 es,v=.agg #[.map (some m1),.map (some m2),.map (some m3),.int .i64 c.order.length]/\MapV w m1 (ze7 (zeP c.ignore))/\MapV w m2 es/\ValsR w es c/\MapV w m3 (zJV c)
def TabR.kept{w w':World}{v:Value}{c:ColT}(h:TabR w v c)(k:Kept w w'):TabR w' v c:=by
 obtain⟨m1,m2,m3,es,hv,h1,h2,h3,h4⟩:=h;exact⟨m1,m2,m3,es,hv,h1.kept k,h2.kept k,h3.kept k,h4.kept k⟩
def zEN(w:World)(vR vO:Value)(ig:Bs)(n:Nat):TS ((((((w.alloc (.cells #[vR,vO,.string (bs ig)] 112)).alloc (.cells zEM 201)).alloc (.map #[] 0)).alloc (.map #[] 0)).alloc (.map #[] 0)).alloc (.cells #[.map (some (w.heap.size+1+1)),.map (some (w.heap.size+1+1+1)),.map (some (w.heap.size+1+1+1+1)),.int .i64 n] 201)) w.heap.size vR vO ig n [] [] []:=by
 have k:∀(w:World) (o:Obj),Kept w (w.alloc o):=zaA;have s:∀(w:World) (o:Obj),(w.alloc o).heap.size=w.heap.size+1:=fun w o=>b_;refine⟨?_,?_,?_,?_,?_,?_⟩
 .exact(((((aI w _ _).alloc _).alloc _).alloc _).alloc _).alloc _
 .have h:=aI (w.alloc (.cells #[vR,vO,.string (bs ig)] 112)) 201 zEM;rw[s]at h;exact(((h.alloc _).alloc _).alloc _).alloc _
 .have h:=jv ((w.alloc (.cells #[vR,vO,.string (bs ig)] 112)).alloc (.cells zEM 201));rw[s,s]at h;exact((h.kept (k _ _)).kept (k _ _)).kept (k _ _)
 .have h:=jv (((w.alloc (.cells #[vR,vO,.string (bs ig)] 112)).alloc (.cells zEM 201)).alloc (.map #[] 0));rw[s,s,s]at h;exact(h.kept (k _ _)).kept (k _ _)
 .have h:=jv ((((w.alloc (.cells #[vR,vO,.string (bs ig)] 112)).alloc (.cells zEM 201)).alloc (.map #[] 0)).alloc (.map #[] 0));rw[s,s,s,s]at h;exact h.kept (k _ _)
 .have h:=aI (((((w.alloc (.cells #[vR,vO,.string (bs ig)] 112)).alloc (.cells zEM 201)).alloc (.map #[] 0)).alloc (.map #[] 0)).alloc (.map #[] 0)) 201 #[.map (some (w.heap.size+1+1)),.map (some (w.heap.size+1+1+1)),.map (some (w.heap.size+1+1+1+1)),.int .i64 n];rw[s,s,s,s,s]at h;exact h
def zHm(w:World)(o1 o2 o3 o4 o5 o6:Obj):Kept w ((((((w.alloc o1).alloc o2).alloc o3).alloc o4).alloc o5).alloc o6) :=
 (((((zaA _ _).trans (zaA _ _)).trans (zaA _ _)).trans (zaA _ _)).trans (zaA _ _)).trans (zaA _ _)
def zyS(vR vO:Value)(c:ColT)(w:World)(hv:Col w vR vO c)(hs:SmallC c):Calls prog 129 #[zDD vR vO c.ignore] w fun e w'=>∃v,e=.returned v/\TabR w' v c/\Kept w w':=by
 obtain⟨s1,s2,s3,s4,s5⟩:=hs;have HV:=Hd hv;obtain⟨aR,cR,rfl,lR⟩:=hv.1.form;obtain⟨aO,cO,rfl,lO⟩:=hv.2.form;have qm:=Hd s4;have rg:=Hd s5;clear hv s4 s5;have mk1:=fun w=>ep (P:=prog) 141 w;have Qw:=fun w=>ep (P:=prog) 198 w;have Qx:=fun w=>ep (P:=prog) 199 w;have vy:=Hd (zEN w (.slice aR c.ranks.length cR) (.slice aO c.order.length cO) c.ignore c.order.length);have pN:=Hd (zHm w (.cells #[.slice aR c.ranks.length cR,.slice aO c.order.length cO,.string (bs c.ignore)] 112) (.cells zEM 201) (.map #[] 0) (.map #[] 0) (.map #[] 0) (.cells #[.map (some (w.heap.size+1+1)),.map (some (w.heap.size+1+1+1)),.map (some (w.heap.size+1+1+1+1)),.int .i64 c.order.length] 201));have xM:=Hd (fun w=>zhY c.ignore w a_);unfold IntsP at xM;have hig:=ziK c.ignore;go_in;go_wp2_with fail;generalize (((((w.alloc (.cells #[.slice aR c.ranks.length cR,.slice aO c.order.length cO,.string (bs c.ignore)] 112)).alloc (.cells zEM 201)).alloc (.map #[] 0)).alloc (.map #[] 0)).alloc (.map #[] 0)).alloc (.cells #[.map (some (w.heap.size+1+1)),.map (some (w.heap.size+1+1+1)),.map (some (w.heap.size+1+1+1+1)),.int .i64 c.order.length] 201)=w0 at *;refine(xM.o _).mono ?_;rintro e w1 ⟨v1,rfl,hv1,ld⟩;have Hl:=Hd hv1;have HT1:=Hd (vy.o.kept ld);have kT:=Hd (pN.o.trans ld);obtain⟨a1,c1,rfl,ol⟩:=hv1.form;obtain⟨xs,vz⟩:=gX (zeP c.ignore);rw[vz.o]at Hl ol hig ⊢;have uz:Hi (ze7 xs=ze7 (xs.take xs.length)):=by
  show _=_;rw[bx (aw _)]
 clear hv1 ld vy pN xM;go_wp2_with fail;go_loopw [28] (fun i wr=>∃k:Nat,k<=xs.length/\i=.int .i64 k/\Hi (TS wr w.heap.size (.slice aR c.ranks.length cR) (.slice aO c.order.length cO) c.ignore c.order.length (ze7 (xs.take k)) [] [])/\Hi (Only (fun i=>i=w.heap.size+1+1) w1 wr)) (fun i _=>xs.length - (intOf i).toNat)
 .exact⟨0,ai _,rfl,HT1.o,bc (af _)⟩
 case round =>
  obtain⟨k,hk,rfl,HT,HO⟩:=hrel;have lD:Hi (Kept w wr):=zb6 kT.o HO.o a_;by_cases kV:k<xs.length
  .obtain⟨y,hx⟩:∃y,xs[k]? = some y:=⟨_,ac kV⟩;obtain⟨g,o,rfl,hg,d0⟩:=(Hl.o.map HT1.o.m1 HO.o).cell_of k y hx;have t0:wr.cell? ⟨w.heap.size+1+1+1+1+1,0,none⟩=some (.map (some (w.heap.size+1+1))):=HT.o.tab.cell 0 _ rfl;have zt:=HT.o.tab.lt;have om:Hi (ze7 (xs.take (k+1))=if(zdL (ze7 (xs.take k)) y).isSome=true then ze7 (xs.take k)else ze7 (xs.take k)++[(y,.bool true)]):=by
    show _=_;obtain⟨hk',rfl⟩:=ak.1 hx;rw[bf hk',ze8]
   have up:(Instr.mapUpdate 141 (.map (some (w.heap.size+1+1))) (.int .i64 y) (.bool true)).run prog wr=.ok () (zo3 wr (w.heap.size+1+1) (ze7 (xs.take (k+1)))):=by
    cases hgv:zdL (ze7 (xs.take k)) y with
    | none =>
     rw[om.o,hgv];exact zI5 (P:=prog) dI bW wr _ _ y (.bool true) HT.o.m1 hgv
    | some u =>
     have hu:u=.bool true:=by
      have:=zt0 (xs.take k) y;rw[hgv]at this
      split at this
      .exact eG this
      .cases this
     subst hu;rw[om.o,hgv];exact zAE (P:=prog) dI bW wr _ _ y (.bool true) HT.o.m1 hgv
   have HT2:=Hd (HT.o.put1 (ze7 (xs.take (k+1))));have mJ:=Hd (HO.o.trans (zc7 wr (w.heap.size+1+1) (ze7 (xs.take (k+1)))));generalize zo3 wr (w.heap.size+1+1) (ze7 (xs.take (k+1)))=w5 at *;clear hx;go_wp2;go_roundw
   .exact⟨k+1,a_,by go_num,HT2.o,mJ.o⟩
   .simp [intOf];omega
  .obtain rfl:k=xs.length:=a_;rw[<- uz.o]at HT;have b0:wr.cell? ⟨w.heap.size,0,none⟩=some (.slice aR c.ranks.length cR):=HT.o.box.cell 0 _ rfl;have z0:=HT.o.box.lt;obtain⟨E1,nW⟩:=gX (ze7 xs);rw[nW.o]at HT;clear uz HO Hl HT1 kT kV;go_wp2_with fail;clear b0 z0;go_loopw [39] (fun i wr=>∃(k:Nat) (es:List (Int×Value)),k<=c.ranks.length/\i=.int .i64 k/\Hi (TS wr w.heap.size (.slice aR c.ranks.length cR) (.slice aO c.order.length cO) c.ignore c.order.length E1 es [])/\Hi (ValsR wr es ⟨c.ranks.take k,c.order,c.ignore⟩)/\Hi (ValsF es (w.heap.size+1+1))/\Hi (Kept w wr)) (fun i _=>c.ranks.length - (intOf i).toNat)
   .exact⟨0,[],ai _,rfl,HT.o,ValsR.nil _ _ _,ValsF.nil _,lD.o⟩
   case round =>
    clear HT lD;obtain⟨j,es,hj,rfl,HT,ru,FX,lD⟩:=hrel;have hwr2:w.heap.size+1+1<=wr.heap.size:=(by have:=HT.o.tab.lt;omega);by_cases ox:j<c.ranks.length
    .obtain⟨p,hx⟩:∃x,c.ranks[j]? = some x:=⟨_,ac ox⟩;obtain⟨od,hp2⟩:=rg.o p (am hx);obtain⟨g,o,rfl,hg,d0,d1,_,_⟩:=(HV.o.1.kept lD.o).cell_of j p hx;have mD:Hi (c.ranks.take (j+1)=c.ranks.take j++[p]):=by
      obtain⟨hk',rfl⟩:=ak.1 hx;exact bf hk'
     obtain⟨x,y⟩:=p;simp only at od hp2 d0 d1;have tw:=Hd (fun w=>zhY x w a_);have yx:=Hd (fun w=>zuG y w a_);unfold IntsP at tw;unfold IntsQ at yx;have hxl:=ziK x;have sX:=Hd (aI wr 46 #[.string (bs x),.string (bs y)]);have oD:=Hd (zaA wr (.cells #[.string (bs x),.string (bs y)] 46));have vG:=Hd (fun w' (h:ValsR w' es ⟨c.ranks.take j,c.order,c.ignore⟩) hp=>zBE h (x,y) hp);have HOLD:=Hd (fun w' (h:ValsR w' es ⟨c.ranks.take j,c.order,c.ignore⟩) z u hp hu=>zEK h (x,y) z u hp hu);have vH:=Hd (fun w' (h:ValsR w' es ⟨c.ranks.take j,c.order,c.ignore⟩) z u hp hu hv=>zEL h (x,y) z u hp hu hv);rw[<- mD.o]at vG HOLD vH;simp only at vG HOLD vH;clear hx mD;generalize zeP x=px at *;generalize zeP y=py at *;go_wp2_with fail;refine(tw.o _).mono ?_;rintro e w3 ⟨v3,rfl,hi3,li⟩;have kZ:=Hd (oD.o.trans li);have HI3:=Hd hi3;have nZ:=Hd (HT.o.kept kZ.o);have Cw:=Hd (ru.o.kept kZ.o);have lq:=Hd (lD.o.trans kZ.o);have Du:=Hd (sX.o.kept li);obtain⟨a3,c3,rfl,hc3⟩:=hi3.form;clear li hi3 d0 d1 hg;by_cases hpx:px.length=1
     case neg =>
      have M8:((px.length:Int)==1)=false:=(by rw[ab];omega);have Hm:=Hd (vG.o w3 Cw.o hpx);clear vG HOLD vH;go_wp2;go_roundw
      .exact⟨j+1,es,a_,by go_num,nZ.o,Hm.o,FX.o,lq.o⟩
      .simp [intOf];omega
     obtain⟨z,rfl⟩:∃z,px=[z]:=List.length_eq_one_iff.1 hpx;obtain⟨g3,o3,rfl,hg3,q0⟩:=HI3.o.cell_of 0 z rfl;rw[dl]at q0;have t1:w3.cell? ⟨w.heap.size+1+1+1+1+1,1,none⟩=some (.map (some (w.heap.size+1+1+1))):=nZ.o.tab.cell 1 _ rfl;have zt:=nZ.o.tab.lt;have lk:=fun w' (h:MapV w' (w.heap.size+1+1+1) es)=>zk9 (P:=prog) jI bW w' (w.heap.size+1+1+1) es z (.slice none 0 0) (Tryz.zeroInts w') h;simp only[az,cj,bP]at hc3 HI3 ⊢;cases hgv:zdL es z with
     | some u =>
      have Hm:=Hd (HOLD.o w3 Cw.o z u rfl hgv);simp only[hgv]at lk;have J8:=fun n=>lk (w3.drewN n) (nZ.o.kept (zaB w3 n)).m2;clear vG HOLD vH lk hgv;go_wp2_with fail
      go_quiet (fail)
      go_wp2;go_roundw
      .exact⟨j+1,es,a_,by go_num,nZ.o.kept (zaB _ _),Hm.o.kept (zaB _ _),FX.o,lq.o.trans (zaB _ _)⟩
      .simp [intOf];omega
     | none =>
      simp only[hgv]at lk;have J8:=fun n=>lk (w3.drewN n) (nZ.o.kept (zaB w3 n)).m2;have yA:=Hd hgv;clear vG HOLD lk hgv;go_wp2_with fail
      go_quiet (fail)
      have ur:=Hd (nZ.o.kept (zaB w3 nq));have M9:=Hd (Cw.o.kept (zaB w3 nq));have mg:=Hd (lq.o.trans (zaB w3 nq));have Bd:=Hd (Du.o.kept (zaB w3 nq));have HI4:=Hd (HI3.o.kept (zaB w3 nq));clear q0 t1 zt J8 hg3 nZ Cw lq Du HI3 kZ;generalize w3.drewN nq=w4 at *;go_wp2_with fail;obtain⟨g4,o4,Na,hg3,q0⟩:=HI4.o.cell_of 0 z rfl;obtain⟨rfl,rfl⟩:g4=g3/\o4=o3:=(by cases Na;exact⟨rfl,rfl⟩);rw[dl]at q0;have t1:w4.cell? ⟨w.heap.size+1+1+1+1+1,1,none⟩=some (.map (some (w.heap.size+1+1+1))):=ur.o.tab.cell 1 _ rfl;have zt:=ur.o.tab.lt;have p1:w4.cell? ⟨wr.heap.size,1,none⟩=some (.string (bs y)):=Bd.o.cell 1 _ rfl;have zp:=Bd.o.lt;have Nb:¬ wr.heap.size=w.heap.size+1+1+1:=Bd.o.no_map ur.o.m2;have Nc:¬ g4=w.heap.size+1+1+1:=by
       rintro rfl;rw[ur.o.m2.no_cell]at q0;cases q0
      have mA:Hi (∀w',Only (fun i=>i=w.heap.size+1+1+1) w4 w'->(w'.cell? ⟨w.heap.size+1+1+1+1+1,1,none⟩=some (.map (some (w.heap.size+1+1+1)))/\w'.cell? ⟨wr.heap.size,1,none⟩=some (.string (bs y))/\w'.cell? ⟨g4,o4,none⟩=some (.int .i64 z))/\(w.heap.size+1+1+1+1+1<w'.heap.size/\wr.heap.size<w'.heap.size/\g4<w'.heap.size)/\Only (fun i=>i=w.heap.size+1+1+1) w4 w'):=fun w' h =>
       ⟨⟨(h.cell _ 1 zt a_).trans t1,(h.cell _ 1 zp Nb).trans p1,(h.cell g4 o4 hg3 Nc).trans q0⟩,⟨aU zt h.size,aU zp h.size,aU hg3 h.size⟩,h⟩
      have Dv:Hi (∀w' v,Kept w4 w'->(Instr.mapUpdate 198 (.map (some (w.heap.size+1+1+1))) (.int .i64 z) v).run prog w'=.ok () (zo3 w' (w.heap.size+1+1+1) (es++[(z,v)]))):=fun w' v h =>
       zI5 (P:=prog) jI bW w' _ es z v (ur.o.kept h).m2 yA.o
      have hkd:Kept w4 w4.drew:=zaB w4 1;have Nd:Only (fun i=>i=w.heap.size+1+1+1) w4 w4.drew:=bc hkd
      go_region_held3 (fun w'=>(w'.cell? ⟨w.heap.size+1+1+1+1+1,1,none⟩=some (.map (some (w.heap.size+1+1+1)))/\w'.cell? ⟨wr.heap.size,1,none⟩=some (.string (bs y))/\w'.cell? ⟨g4,o4,none⟩=some (.int .i64 z))/\(w.heap.size+1+1+1+1+1<w'.heap.size/\wr.heap.size<w'.heap.size/\g4<w'.heap.size)/\Only (fun i=>i=w.heap.size+1+1+1) w4 w')
       ((refine mA.o _ ?_;assumption))
       (first
        | (go_at_call 172;refine(yx.o _).mono ?_;rintro e w5 ⟨v5,rfl,hi5,J9,lU⟩;have k5:Kept w4 w5:=hkd.trans lU;have zK:=Hd J9;have Be:=Hd hi5;have Nf:=Dv.o w5 v5 k5;have o5:Only (fun i=>i=w.heap.size+1+1+1) w4 w5:=bc k5;have o6:=o5.trans (zc7 w5 (w.heap.size+1+1+1) (es++[(z,v5)]));obtain⟨a5,c5,rfl,Ng⟩:=hi5.form;clear lU hi5 J9))
      all_goals
       have zK:∀g,(Value.slice a5 py.length c5).ownBlock=some g->w.heap.size+1+1<=g:=fun g h=>by
        have:=zK.o g h;have h8:w4.heap.size<=g:=this;have:=ur.o.tab.lt;omega
       have Bf:=Hd ((ur.o.kept k5).put2 (es++[(z,Value.slice a5 py.length c5)]));have sa:=Hd (ur.o.kept k5).m2;have oF:=Hd (zc7 w5 (w.heap.size+1+1+1) (es++[(z,Value.slice a5 py.length c5)]));have HV5:=Hd (vH.o _ ((M9.o.kept k5).onl sa.o oF.o) z (Value.slice a5 py.length c5) rfl yA.o (Be.o.map sa.o oF.o));have lX:=Hd (zb6 (mg.o.trans k5) oF.o a_);clear Dv mA Nf o5 o6 Nd hkd;generalize zo3 w5 (w.heap.size+1+1+1) (es++[(z,Value.slice a5 py.length c5)])=w6 at *;go_wp2;go_roundw
       .exact⟨j+1,es++[(z,Value.slice a5 py.length c5)],a_,by go_num,Bf.o,HV5.o,FX.o.push z _ zK,lX.o⟩
       .simp [intOf];omega
    .obtain rfl:j=c.ranks.length:=a_;rw[bx (aw _)]at ru;have Dw:Hi (ValsR wr es c):=ru.o;have b1:wr.cell? ⟨w.heap.size,1,none⟩=some (.slice aO c.order.length cO):=HT.o.box.cell 1 _ rfl;have z1:=HT.o.box.lt;have Qy:Hi (([]:List (Int×Value))=zz8 (c.order.take 0) 0 []):=rfl;clear ru ox;go_wp2_with fail;clear b1 z1;go_loopw [72] (fun i wr2=>∃k:Nat,k<=c.order.length/\i=.int .i64 k/\Hi (TS wr2 w.heap.size (.slice aR c.ranks.length cR) (.slice aO c.order.length cO) c.ignore c.order.length E1 es (zz8 (c.order.take k) 0 []))/\Hi (ValsR wr2 es c)/\Hi (Kept w wr2)) (fun i _=>c.order.length - (intOf i).toNat)
     .exact⟨0,ai _,rfl,HT.o,Dw.o,lD.o⟩
     case round =>
      clear HT Dw lD;obtain⟨k,hk,rfl,HT,ru,lD⟩:=hrel;by_cases hlt3:k<c.order.length
      .obtain⟨s,hx⟩:∃x,c.order[k]? = some x:=⟨_,ac hlt3⟩;have hsl:=qm.o s (am hx);obtain⟨g,o,rfl,hg,d0,_,_⟩:=(HV.o.2.kept lD.o).cell_of k s hx;have tY:Hi (zz8 (c.order.take (k+1)) 0 []=znK k (zz8 (c.order.take k) 0 []) (zeP s)):=by
        show _=_;obtain⟨hk',rfl⟩:=ak.1 hx;rw[bf hk',zrD];congr 1;simp;omega
       have un:=Hd (fun w=>zhY s w a_);unfold IntsP at un;have hpl:=ziK s;clear hx;generalize zeP s=ps at *;generalize zz8 (c.order.take k) 0 []=e3 at *;go_wp2_with fail;refine(un.o _).mono ?_;rintro e w3 ⟨v3,rfl,hi3,li⟩;have HI3:=Hd hi3;have nZ:=Hd (HT.o.kept li);have Cw:=Hd (ru.o.kept li);have lq:=Hd (lD.o.trans li);obtain⟨a3,c3,rfl,hc3⟩:=hi3.form;clear li hi3 d0 hg HT ru lD;go_wp2_with fail;go_loopw [80] (fun i wr3=>∃n:Nat,n<=ps.length/\i=.int .i64 n/\Hi (TS wr3 w.heap.size (.slice aR c.ranks.length cR) (.slice (some ⟨g,o,none⟩) c.order.length cO) c.ignore c.order.length E1 es (znK k e3 (ps.take n)))/\Hi (Only (fun i=>i=w.heap.size+1+1+1+1) w3 wr3)) (fun i _=>ps.length - (intOf i).toNat)
       .exact⟨0,ai _,rfl,nZ.o,bc (af _)⟩
       case round =>
        obtain⟨n,hn,rfl,HT,HO⟩:=hrel;have ru:Hi (ValsR wr es c):=Cw.o.onl nZ.o.m3 HO.o;have lD:Hi (Kept w wr):=zb6 lq.o HO.o a_;by_cases Hn:n<ps.length
        .obtain⟨y,hx⟩:∃y,ps[n]? = some y:=⟨_,ac Hn⟩;obtain⟨g,o,rfl,hg,d0⟩:=(HI3.o.map nZ.o.m3 HO.o).cell_of n y hx;have t2:wr.cell? ⟨w.heap.size+1+1+1+1+1,2,none⟩=some (.map (some (w.heap.size+1+1+1+1))):=HT.o.tab.cell 2 _ rfl;have zt:=HT.o.tab.lt;have om:Hi (znK k e3 (ps.take (n+1))=if(zdL (znK k e3 (ps.take n)) y).isSome=true then znK k e3 (ps.take n)else znK k e3 (ps.take n)++[(y,.int .i64 k)]):=by
          show _=_;obtain⟨hk',rfl⟩:=ak.1 hx;rw[bf hk',zAG]
         have lk:=zk9 (P:=prog) jH bW wr (w.heap.size+1+1+1+1) (znK k e3 (ps.take n)) y (.int .i64 0) (Tryz.zeroInt wr) HT.o.m3;clear hx;cases hgv:zdL (znK k e3 (ps.take n)) y with
         | some u =>
          rw[hgv]at om lk;rw[ae d_]at om;simp only[dE,eO]at lk;rw[<- om.o]at HT;go_wp2;go_roundw
          .exact⟨n+1,a_,by go_num,HT.o,HO.o⟩
          .simp [intOf];omega
         | none =>
          rw[hgv]at om lk;rw[aa b_]at om;simp only[fN,ga]at lk;have up:=zI5 (P:=prog) jH bW wr _ _ y (.int .i64 k) HT.o.m3 hgv;rw[<- om.o]at up;have HT2:=Hd (HT.o.put3 (znK k e3 (ps.take (n+1))));have mJ:=Hd (HO.o.trans (zc7 wr (w.heap.size+1+1+1+1) (znK k e3 (ps.take (n+1)))));generalize zo3 wr (w.heap.size+1+1+1+1) (znK k e3 (ps.take (n+1)))=w5 at *;clear hgv om;go_wp2;go_roundw
          .exact⟨n+1,a_,by go_num,HT2.o,mJ.o⟩
          .simp [intOf];omega
        .obtain rfl:n=ps.length:=a_;rw[bx (aw _),<- tY.o]at HT;go_wp2;go_roundw
         .exact⟨k+1,a_,by go_num,HT.o,ru.o,lD.o⟩
         .simp [intOf];omega
      .obtain rfl:k=c.order.length:=a_;rw[bx (aw _)]at HT;have t0:wr.cell? ⟨w.heap.size+1+1+1+1+1,0,none⟩=some (.map (some (w.heap.size+1+1))):=HT.o.tab.cell 0 _ rfl;have t1:wr.cell? ⟨w.heap.size+1+1+1+1+1,1,none⟩=some (.map (some (w.heap.size+1+1+1))):=HT.o.tab.cell 1 _ rfl;have t2:wr.cell? ⟨w.heap.size+1+1+1+1+1,2,none⟩=some (.map (some (w.heap.size+1+1+1+1))):=HT.o.tab.cell 2 _ rfl;have t3:wr.cell? ⟨w.heap.size+1+1+1+1+1,3,none⟩=some (.int .i64 c.order.length):=HT.o.tab.cell 3 _ rfl;have zt:=HT.o.tab.lt;have r0:wr.cell? ⟨w.heap.size+1,0,none⟩=some (.map none):=HT.o.res.cell 0 _ rfl;have r1:wr.cell? ⟨w.heap.size+1,1,none⟩=some (.map none):=HT.o.res.cell 1 _ rfl;have r2:wr.cell? ⟨w.heap.size+1,2,none⟩=some (.map none):=HT.o.res.cell 2 _ rfl;have r3:wr.cell? ⟨w.heap.size+1,3,none⟩=some (.int .i64 0):=HT.o.res.cell 3 _ rfl;have f0:=HT.o.res.free 0;have f1:=HT.o.res.free 1;have f2:=HT.o.res.free 2;have f3:=HT.o.res.free 3;have zr:=HT.o.res.lt;go_wp2_with fail;have hO:Only (fun i=>i=w.heap.size+1) wr ((((wr.setCell ⟨w.heap.size+1,0,none⟩ (.map (some (w.heap.size+1+1)))).setCell ⟨w.heap.size+1,1,none⟩ (.map (some (w.heap.size+1+1+1)))).setCell ⟨w.heap.size+1,2,none⟩ (.map (some (w.heap.size+1+1+1+1)))).setCell ⟨w.heap.size+1,3,none⟩ (.int .i64 c.order.length)) :=
        ((((bK _ 0 _).trans (bK _ 1 _)).trans (bK _ 2 _)).trans (bK _ 3 _))
       refine bM (v:=.agg #[.map (some (w.heap.size+1+1)),.map (some (w.heap.size+1+1+1)),.map (some (w.heap.size+1+1+1+1)),.int .i64 c.order.length]) (by simp [results,results129,go_sem,r0,r1,r2,r3,zr]) rfl ?_;refine⟨_,rfl,⟨_,_,_,es,rfl,?_,HT.o.m2.only hO a_,ru.o.blk FX.o a_ hO,HT.o.m3.only hO a_⟩,zb6 lD.o hO a_⟩;rw[vz.o,nW.o];exact HT.o.m1.only hO a_
def zoD(l:Bs):∀(n k:Nat),l.length - k<=n->∀y∈ztZ l k,0<=y/\y<=1114111/\(y<55296\/57343<y)
 | 0,k,hk,y,hy=>by rw[ziJ l k a_]at hy;cases hy
 | n+1,k,hk,y,hy=>by
  by_cases q:k<l.length
  .rw[zo4 l k q]at hy;rcases bj.1 hy with rfl|hy
   .exact zr9 (bs l) k
   .have hb:=zaX (bs l) k (by simpa using q);exact zoD l n _ a_ y hy
  .rw[ziJ l k q]at hy;cases hy
def zsD(l:Bs):∀y∈zeP l,0<=y/\y<=1114111/\(y<55296\/57343<y):=zoD l _ 0 (aw _)
def zBF{c:ColT}{x:Int}{ys:List Int}(h:znY c x=some ys):∀y∈ys,0<=y/\y<=1114111/\(y<55296\/57343<y):=by
 unfold znY at h;cases hf:c.ranks.find? (fun p=>zeP p.1==[x])with
 | none=>rw[hf]at h;cases h
 | some p=>rw[hf]at h;cases h;exact zsD p.2
def zBG{c:ColT}(hs:SmallC c){x:Int}{ys:List Int}(h:znY c x=some ys):ys.length<=1000:=by
 unfold znY at h;cases hf:c.ranks.find? (fun p=>zeP p.1==[x])with
 | none=>rw[hf]at h;cases h
 | some p =>
  rw[hf]at h;cases h;have:=(hs.2.2.2.2 p (cw hf)).2;have h2:=ziK p.2;simp only;omega
def zEO(v:Value)(c:ColT)(x:Int)(w:World)(hv:TabR w v c)(hs:SmallC c)(hx0:0<=x)(hx1:x<=1114111):Calls prog 173 #[v,.int .i64 x] w fun e w'=>e=.returned (.int .i64 (ziB c x))/\Kept w w':=by
 obtain⟨m1,m2,m3,es,rfl,h1,h2,h3,h4⟩:=hv;have hn:=hs.2.1;have HR:Hi (ziB c x=if x=32 then 0 else match zGX c x with
  | some i=>(i:Int)+1
  | none=>(c.order.length:Int)+1+x):=rfl
 have mh:∀i,zGX c x=some i->i<c.order.length:=fun i h=>by
  unfold zGX at h;exact(List.findIdx?_eq_some_iff_getElem.1 h).1
 have lk:=zk9 (P:=prog) jH bW (w.alloc (.cells #[.map (some m1),.map (some m2),.map (some m3),.int .i64 c.order.length] 201)) m3 (zJV c) x (.int .i64 0) (Tryz.zeroInt _) (h4.kept (zaA _ _));rw[zGZ]at lk;generalize ziB c x=R at *;generalize c.order.length=n at *;clear h1 h2 h3 h4;by_cases h32:x=32
 .rw[ae h32]at HR;subst h32;clear lk;go_in;go_wp2;go_ret;exact⟨zaU HR.o.symm,zaA _ _⟩
 rw[aa h32]at HR;have Nh:(x==32)=false:=(by simpa using h32);cases hgi:zGX c x with
 | none =>
  rw[hgi]at HR lk;simp only[iY,fN,ga]at lk;have kS:Hi (R=(n:Int)+1+x):=HR;clear HR hgi mh;go_in;go_wp2;go_ret;exact⟨zaU kS.o.symm,zaA _ _⟩
 | some i =>
  have hi:=mh i hgi;rw[hgi]at HR lk;simp only[eR,dE,eO]at lk;have kS:Hi (R=(i:Int)+1):=HR;clear HR hgi mh;go_in;go_wp2;go_ret;exact⟨zaU kS.o.symm,zaA _ _⟩
def zHn(c:ColT)(s:Bs)(k:Nat)(h:k<s.length):(ztZ s k).flatMap (zjL c)=zjL c (dec (bs s) k).1++(ztZ s (k+(dec (bs s) k).2.toNat)).flatMap (zjL c):=by
 rw[zo4 s k h,dB]
def RowQ(xs:List Int)(w:World)(e:Ending)(w':World):Prop:=∃v,e=.returned v/\w'.ownsRow w.heap.size 3 1 v xs.length (zAF xs)/\Kept w w'
def zHo(v:Value)(c:ColT)(s:Bs)(w:World)(hv:TabR w v c)(hs:SmallC c)(hl:s.length<=100000):Calls prog 131 #[v,.string (bs s)] w (RowQ (zgM c s) w):=by
 obtain⟨i0,hi,mr,mq,mm⟩:=cg Tryz.infoInt;have vI:=Hd hv;have oE:=Hd (fun w' x (h:Kept w w') h0 h1=>zEO v c x w' (hv.kept h) hs h0 h1);obtain⟨m1,m2,m3,es,rfl,h1,h2,h3,h4⟩:=hv;have tj:=Hd h1;have nQ:=Hd h2;have ru:=Hd h3;have A6:Hi (∀x ys,znY c x=some ys->ys.length<=1000/\∀y∈ys,0<=y/\y<=1114111/\(y<55296\/57343<y)):=fun x ys h=>⟨zBG hs h,zBF h⟩;clear h1 h2 h3 h4;have H0:Hi (zgM c s=[]++(ztZ s 0).flatMap (zjL c)):=(by show _=_;rw[zl0];rfl);have mv:=Hd (aI w 201 #[.map (some m1),.map (some m2),.map (some m3),.int .i64 c.order.length]);have lg:=Hd (zaA w (.cells #[.map (some m1),.map (some m2),.map (some m3),.int .i64 c.order.length] 201));unfold RowQ;go_in;go_wp2_with fail;go_loopw [5] (fun v wr=>∃(pos:Nat) (xs:List Int),pos<=s.length/\xs.length<=1000 * pos/\wr.heap[w.heap.size+1]? = some (.stringIter (bs s) pos)/\wr.ownsRow (w.heap.size+2) 3 1 v xs.length (zAF xs)/\Hi (zgM c s=xs++(ztZ s pos).flatMap (zjL c))/\Hi (Blk wr w.heap.size 201 #[.map (some m1),.map (some m2),.map (some m3),.int .i64 c.order.length])/\Hi (Kept w wr)) (fun _ wr=>s.length - wr.iterPos (w.heap.size+1))
 .exact⟨0,[],ai _,ai _,by have h:=eQ (w.alloc (.cells #[.map (some m1),.map (some m2),.map (some m3),.int .i64 c.order.length] 201)) (bs s) 0;simpa using h,dg _ _ _ _,H0.o,mv.o.alloc _,lg.o.trans (zaA _ _)⟩
 case round =>
  obtain⟨pos,xs,hp,hxl,mz,lc,HA,HB,HK⟩:=hrel;have sr:wr.iterPos (w.heap.size+1)=pos:=(by simp [World.iterPos,mz]);have ny:w.heap.size+1<wr.heap.size:=by
   rcases bG (w.heap.size+1) wr.heap.size with q|q
   .exact q
   .rw[bB q]at mz;cases mz
  by_cases kV:pos<s.length
  .have nx:=fun ty=>zc2 (P:=prog) wr (w.heap.size+1) (bs s) pos ty mz kV;have hb:=zaX (bs s) pos kV;have hdv:=zr9 (bs s) pos;have HP:=Hd (zHn c s pos kV);have oV:(wr.iterAt (w.heap.size+1) (bs s) (pos+(dec (bs s) pos).2.toNat)).heap[w.heap.size+1]? = some (.stringIter (bs s) (pos+(dec (bs s) pos).2.toNat)):=fy wr (w.heap.size+1) (bs s) pos _ mz;have hkW:Kept w (wr.iterAt (w.heap.size+1) (bs s) (pos+(dec (bs s) pos).2.toNat)):=fj HK.o a_ (bs s) _;have rB:=zhX lc mz (bs s) (pos+(dec (bs s) pos).2.toNat);have hbW:=HB.o.onl (zl3 wr (w.heap.size+1) (bs s) (pos+(dec (bs s) pos).2.toNat)) a_;have tS:(wr.iterAt (w.heap.size+1) (bs s) (pos+(dec (bs s) pos).2.toNat)).heap.size=wr.heap.size:=eV ..;obtain⟨x,n,hd⟩:∃c n,dec (bs s) pos=(c,n):=⟨(dec (bs s) pos).1,(dec (bs s) pos).2,rfl⟩;rw[hd]at nx hb hdv HP oV hkW rB hbW tS;simp only at nx hb hdv HP oV hkW rB hbW tS;obtain⟨b1,b2,b3,b4,b5⟩:=hb;simp only[zdZ]at b5;obtain⟨hx0,hx1,_⟩:=hdv;obtain⟨W,HW⟩:=gX (wr.iterAt (w.heap.size+1) (bs s) (pos+n.toNat));simp only[HW.o]at nx oV hkW rB hbW tS;have sx:=Hd oV;have lD:=Hd hkW;have HOW:=Hd rB;have xF:=Hd hbW;have ob:=Hd sr;have hszW:w.heap.size+1<W.heap.size:=a_;have t0:W.cell? ⟨w.heap.size,0,none⟩=some (.map (some m1)):=hbW.cell 0 _ rfl;have t1:W.cell? ⟨w.heap.size,1,none⟩=some (.map (some m2)):=hbW.cell 1 _ rfl;have t2:W.cell? ⟨w.heap.size,2,none⟩=some (.map (some m3)):=hbW.cell 2 _ rfl;have t3:W.cell? ⟨w.heap.size,3,none⟩=some (.int .i64 c.order.length):=hbW.cell 3 _ rfl;have Cx:=zx0 (P:=prog) dI bW W m1 (ze7 (zeP c.ignore)) x (.bool false) (fU W) (tj.o.kept hkW);rw[zg1]at Cx;have kT:Hi (zjL c x=if(zeP c.ignore).contains x=true then []else match znY c x with
    | some v=>v.map (ziB c)
    | none=>[ziB c x]):=rfl
   clear oV hkW rB hbW tS hd sr mz lc HK HB;cases nz:(zeP c.ignore).contains x
   case true =>
    rw[nz]at Cx kT;rw[ae rfl]at kT;have lc:=HOW.o;go_wp2;go_roundw
    .exact⟨pos+n.toNat,xs,a_,a_,sx.o,lc,by show _=_;rw[HA.o,HP.o,kT.o];simp,xF.o,lD.o⟩
    .rw[ob.o];have:=sx.o;simp [World.iterPos,this];omega
   rw[nz]at Cx kT;rw[aa b_]at kT;have Dx:=zk9 (P:=prog) jI bW W m2 es x (.slice none 0 0) (Tryz.zeroInts W) (nQ.o.kept lD.o);have yB:=Hd (ru.o x);cases hval:znY c x with
   | none =>
    rw[hval]at yB kT;have hgn:zdL es x=none:=yB.o;rw[hgn]at Dx;simp only[fN,ga]at Dx;have kX:Hi (zjL c x=[ziB c x]):=kT;have Bc:=Hd (fun w' h=>oE.o w' x h hx0 hx1);generalize ziB c x=r at *;clear hval hgn kT;go_wp2_with fail;refine k_ (Bc.o _ lD.o) fun w3 li=>?_;have lq:=Hd (lD.o.trans li);have nl:=Hd (xF.o.kept li);have Bg:Hi (w3.heap[w.heap.size+1]? = some (.stringIter (bs s) (pos+n.toNat))):=by
     show _=_;rw[li.block _ hszW];exact sx.o
    have lc:=za1 HOW.o li;have Ho:W.heap.size<=w3.heap.size:=li.size;clear li t0 t1 t2 t3;go_wp2_with (at_builtin;refine cV _ rfl _ _ 178 rfl (w.heap.size+2) 3 i0 (.int .i64 0) 1 8 ew hi mr mq mm rfl c_ _ _ _ rfl (lc.alloc _) ⟨w3.heap.size,0,none⟩ 1 1 [.int .i64 r] rfl rfl (zbO _ #[.int .i64 r] _ _ b_) (by intro u hu;simp at hu;subst hu;rfl) h_ a_ e_ ?_;intro v' w4 lr mG _);have hb4:Below (w.heap.size+2) w3 w4:=((gc _ w3).alloc a_ _).trans (za2 (lc.alloc _) mG e_);have mg:=Hd (lq.o.trans' (hb4.mono a_));have oO:Hi (Blk w4 w.heap.size 201 #[.map (some m1),.map (some m2),.map (some m3),.int .i64 c.order.length]):=(hb4.block _ a_).trans nl.o;have yC:Hi (w4.heap[w.heap.size+1]? = some (.stringIter (bs s) (pos+n.toNat))):=(hb4.block _ a_).trans Bg.o;rw[<- ziL]at lr;have HO:=Hd lr;clear lr mG lc hb4;go_wp2;go_roundw
    .exact⟨pos+n.toNat,xs++[r],a_,e_,yC.o,by simpa using HO.o,by show _=_;rw[HA.o,HP.o,kX.o];simp,oO.o,mg.o⟩
    .rw[ob.o];have:=yC.o;simp [World.iterPos,this];omega
   | some ys =>
    rw[hval]at yB kT;have hgs:∃u,zdL es x=some u/\Ints w u ys:=yB.o;obtain⟨u,hu,hiu⟩:=hgs;rw[hu]at Dx;simp only[dE,eO]at Dx;have kX:Hi (zjL c x=ys.map (ziB c)):=kT;obtain⟨hyl,FY⟩:=A6.o x ys hval;have zL:=Hd FY;have Ni:=Hd hiu;obtain⟨au,cu,rfl,Qz⟩:=hiu.form;have lc:=HOW.o;clear hval hu kT yB FY hiu;go_wp2_with fail;clear t0 t1 t2 t3;go_loopw [5,41] (fun v i wr2=>∃(j:Nat) (zs:List Int),j<=ys.length/\i=.int .i64 j/\zs.length=xs.length+j/\wr2.heap[w.heap.size+1]? = some (.stringIter (bs s) (pos+n.toNat))/\wr2.ownsRow (w.heap.size+2) 3 1 v zs.length (zAF zs)/\Hi (zs=xs++(ys.take j).map (ziB c))/\Hi (Blk wr2 w.heap.size 201 #[.map (some m1),.map (some m2),.map (some m3),.int .i64 c.order.length])/\Hi (Kept w wr2)) (fun _ i _=>ys.length - (intOf i).toNat)
    .exact⟨0,xs,ai _,rfl,rfl,sx.o,lc,by show _=_;simp,xF.o,lD.o⟩
    case round =>
     clear lc HOW Cx Dx nx;obtain⟨j,zs,hj,rfl,hzl,hit2,lc,HZ,lx,yD⟩:=hrel;have hsz2:w.heap.size+1<wr.heap.size:=by
      rcases bG (w.heap.size+1) wr.heap.size with q|q
      .exact q
      .rw[bB q]at hit2;cases hit2
     have oM:=Hd hit2;clear hit2;by_cases ox:j<ys.length
     .obtain⟨y,hy⟩:∃y,ys[j]? = some y:=⟨_,ac ox⟩;obtain⟨g,o,rfl,hg,d0⟩:=(Ni.o.kept yD.o).cell_of j y hy;obtain⟨hy0,hy1,_⟩:=zL.o y (am hy);have HZ2:Hi (zs++[ziB c y]=xs++(ys.take (j+1)).map (ziB c)):=by
       show _=_;obtain⟨hj',rfl⟩:=ak.1 hy;rw[bf hj',HZ.o,cI,cX];rfl
      have Bc:=Hd (fun w' h=>oE.o w' y h hy0 hy1);generalize ziB c y=r at *;have t0:wr.cell? ⟨w.heap.size,0,none⟩=some (.map (some m1)):=lx.o.cell 0 _ rfl;have t1:wr.cell? ⟨w.heap.size,1,none⟩=some (.map (some m2)):=lx.o.cell 1 _ rfl;have t2:wr.cell? ⟨w.heap.size,2,none⟩=some (.map (some m3)):=lx.o.cell 2 _ rfl;have t3:wr.cell? ⟨w.heap.size,3,none⟩=some (.int .i64 c.order.length):=lx.o.cell 3 _ rfl;have oe:=Hd lc;clear hy lc;go_wp2_with fail;refine k_ (Bc.o _ yD.o) fun w3 li=>?_;have lq:=Hd (yD.o.trans li);have nl:=Hd (lx.o.kept li);have Bg:Hi (w3.heap[w.heap.size+1]? = some (.stringIter (bs s) (pos+n.toNat))):=by
       show _=_;rw[li.block _ hsz2];exact oM.o
      have lc:=za1 oe.o li;have Ho:wr.heap.size<=w3.heap.size:=li.size;clear li t0 t1 t2 t3 d0 hg;go_wp2_with (at_builtin;refine cV _ rfl _ _ 178 rfl (w.heap.size+2) 3 i0 (.int .i64 0) 1 8 ew hi mr mq mm rfl c_ _ _ _ rfl (lc.alloc _) ⟨w3.heap.size,0,none⟩ 1 1 [.int .i64 r] rfl rfl (zbO _ #[.int .i64 r] _ _ b_) (by intro u hu;simp at hu;subst hu;rfl) h_ a_ e_ ?_;intro v' w4 lr mG _);have hb4:Below (w.heap.size+2) w3 w4:=((gc _ w3).alloc a_ _).trans (za2 (lc.alloc _) mG e_);have mg:=Hd (lq.o.trans' (hb4.mono a_));have oO:Hi (Blk w4 w.heap.size 201 #[.map (some m1),.map (some m2),.map (some m3),.int .i64 c.order.length]):=(hb4.block _ a_).trans nl.o;have yC:Hi (w4.heap[w.heap.size+1]? = some (.stringIter (bs s) (pos+n.toNat))):=(hb4.block _ a_).trans Bg.o;rw[<- ziL]at lr;have HO:=Hd lr;clear lr mG lc hb4;go_wp2;go_roundw
      .exact⟨j+1,zs++[r],a_,by go_num,e_,yC.o,by simpa using HO.o,HZ2.o,oO.o,mg.o⟩
      .simp [intOf];omega
     .obtain rfl:j=ys.length:=a_;have Nj:Hi (zs=xs++zjL c x):=by
       show _=_;have h:=HZ.o;rw[bx (aw _)]at h;rw[h,kX.o]
      have oe:=Hd lc;clear lc;go_wp2;go_roundw
      .exact⟨pos+n.toNat,zs,a_,a_,oM.o,oe.o,by show _=_;rw[HA.o,HP.o,Nj.o];simp,lx.o,yD.o⟩
      .rw[ob.o];have:=oM.o;simp [World.iterPos,this];omega
  .have nx:=fun ty=>zbM (P:=prog) wr (w.heap.size+1) (bs s) pos ty mz kV;have HI:=Hd (zvT lc (show w.heap.size<=w.heap.size+2 by omega));have HL:Hi (zgM c s=xs):=by
    show _=_;rw[HA.o,ziJ s pos kV];simp
   clear lc;go_wp2;go_ret;exact⟨_,rfl,by rw[HL.o];exact HI.o,HK.o⟩
def zHp(v:Value)(c:ColT)(s:Bs)(w:World)(hv:TabR w v c)(hs:SmallC c)(hl:s.length<=100000):Calls prog 131 #[v,.string (bs s)] w (IntsQ (zgM c s) w) :=
 (zHo v c s w hv hs hl).mono fun _ _ ⟨v,h1,h2,h3⟩=>⟨v,h1,Ints.own h2,fun g hg=>(h2.lt g hg).1,h3⟩
def zBH(v:Value)(c:ColT)(s:Bs)(w:World)(hv:TabR w v c)(hs:SmallC c)(hl:s.length<=100000):Calls prog 131 #[v,.string (bs s)] w (IntsP (zgM c s) w) :=
 (zHp v c s w hv hs hl).mono fun _ _ ⟨v,h1,h2,_,h3⟩=>⟨v,h1,h2,h3⟩
end Go.Proofs.YtnldgmhdjancbaaGreatDoor
