/- Parts. -/
import Derived.Test.YtnldgmhdjancbaaGreatDoorW05
set_option linter.all false
set_option maxRecDepth 100000
set_option maxHeartbeats 6400000
namespace Go.Proofs.YtnldgmhdjancbaaGreatDoor
open Go.RowKit Go.Proofs.Tryz
def zhN(ps:List Pc)(key:Bs):List Int:=(ps.filter fun p=>p.fld&&(!(p.txt==key) && !(p.grp==0))).map fun p=>(p.grp:Int)
def zkU(ps:List Pc)(key:Bs):Bool:=ps.any fun p=>p.fld&&((p.txt==key) && !((zhN ps key).contains (p.grp:Int)))
def zAN(ps:List Pc)(key:Bs)(p:Pc):zhN (ps++[p]) key=zhN ps key++(if(p.fld&&(!(p.txt==key) && !(p.grp==0)))=true then [(p.grp:Int)]else []):=by
 unfold zhN;rw[gY,cI];by_cases h:(p.fld&&(!(p.txt==key) && !(p.grp==0)))=true
 .rw[ae h];simp [h]
 .rw[aa h];simp [h]
def zAO(v:Value)(ps:List Pc)(key:Bs)(w:World)(hv:Pcs w v ps)(hl:ps.length<=1000000):Calls prog 79 #[v,.string (bs key)] w fun e w'=>e=.returned (.bool (zkU ps key))/\Kept w w':=by
 have HV:=Hd hv;obtain⟨a,c,rfl,hc⟩:=hv.form;clear hv;have mD:Hi (∀k (hk:k<ps.length),zhN (ps.take (k+1)) key=zhN (ps.take k) key++(if(ps[k].fld&&(!(ps[k].txt==key) && !(ps[k].grp==0)))=true then [(ps[k].grp:Int)]else [])):=fun k hk=>by
  rw[bf hk,zAN]
 have HF:Hi (∀k (hk:k<ps.length),(ps[k].fld&&((ps[k].txt==key) && !((zhN ps key).contains (ps[k].grp:Int))))=true->zkU ps key=true):=fun k hk h =>
  dv.2 ⟨ps[k],dm hk,h⟩
 have HT:Hi ((∀k (hk:k<ps.length),(ps[k].fld&&((ps[k].txt==key) && !((zhN ps key).contains (ps[k].grp:Int))))=false)->zkU ps key=false):=fun h=>by
  unfold zkU;rw[eD];intro p hp;obtain⟨k,hk,e⟩:=dZ hp;have:=h k hk;rw[e]at this;rw[this];simp
 have th:Hi (zhN (ps.take 0) key=[]):=rfl;have nP:Hi (zhN (ps.take ps.length) key=zhN ps key):=(by show _=_;rw[bx (aw _)]);generalize zkU ps key=R at *;have mk:=fun w=>ep (P:=prog) 141 w;go_in;go_wp2_with fail;have Cr:=Hd (jv w);have lg:=Hd (zaA w (.map #[] 0));generalize w.alloc (.map #[] 0)=w0 at *;obtain⟨M,CY⟩:=gX w.heap.size;have tT:w.heap.size<=M:=(by rw[CY.o];exact aw _);rw[CY.o]at Cr ⊢;go_loopw [13] (fun i wr=>∃k:Nat,k<=ps.length/\i=.int .i64 k/\Hi (MapV wr M (ze7 (zhN (ps.take k) key)))/\Hi (Kept w wr)) (fun i _=>ps.length - (intOf i).toNat)
 .exact⟨0,ai _,rfl,Cr.o,lg.o⟩
 case round =>
  obtain⟨k,hk,rfl,HM,kO⟩:=hrel;by_cases kV:k<ps.length
  .have hx:=ac kV;obtain⟨g,o,rfl,hg,d0,d1,d2⟩:=(HV.o.kept kO.o).cell_of k _ hx;have mj:=Hd (mD.o k kV);generalize ps[k]=p at *;obtain⟨x,f,gr⟩:=p;simp only at d0 d1 d2 mj;have up:∀w',MapV w' M (ze7 (zhN (ps.take k) key))->zhN (ps.take (k+1)) key=zhN (ps.take k) key++[(gr:Int)]->(Instr.mapUpdate 141 (.map (some M)) (.int .i64 gr) (.bool true)).run prog w'=.ok () (zo3 w' M (ze7 (zhN (ps.take (k+1)) key))):=by
    intro w' hm he;rw[he];cases hgv:zdL (ze7 (zhN (ps.take k) key)) (gr:Int)with
    | none =>
     rw[ze8,hgv];exact zI5 (P:=prog) dI bW w' _ _ gr (.bool true) hm hgv
    | some u =>
     have hu:u=.bool true:=by
      have:=zt0 (zhN (ps.take k) key) gr;rw[hgv]at this
      split at this
      .exact eG this
      .cases this
     subst hu;rw[ze8,hgv];exact zAE (P:=prog) dI bW w' _ _ gr (.bool true) hm hgv
   have UP:=Hd up;clear hx up;by_cases ol:(f&&(!(x==key) && !(gr==0)))=true
   .simp only[ba,ir]at ol;obtain⟨rfl,h2,h3⟩:=ol;rw[h2,h3,ae d_]at mj;have h3':((gr:Int)==0)=false:=by
     rw[ab];intro q;rw[ab]at h3;omega
    have nQ:=Hd (HM.o.kept (zaA wr (.cells #[.string (bs x),.bool true,.int .i64 gr] 143)));have up:=UP.o _ nQ.o mj.o;have tU:=Hd (ziI _ _ (ze7 (zhN (ps.take (k+1)) key)) nQ.o.lt);have qb:=Hd (zc7 (wr.alloc (.cells #[.string (bs x),.bool true,.int .i64 gr] 143)) M (ze7 (zhN (ps.take (k+1)) key)));have lq:=Hd (zb6 (kO.o.trans (zaA wr (.cells #[.string (bs x),.bool true,.int .i64 gr] 143))) qb.o tT);go_wp2;go_roundw
    .exact⟨k+1,a_,by go_num,tU.o,lq.o⟩
    .simp [intOf];omega
   .have pj:Hi (zhN (ps.take (k+1)) key=zhN (ps.take k) key):=by
     show _=_;rw[mj.o,aa ol,bN]
    cases f with
    | false =>
     clear ol;have nQ:=Hd (HM.o.kept (zaA wr (.cells #[.string (bs x),.bool false,.int .i64 gr] 143)));have kX:=Hd (kO.o.trans (zaA wr (.cells #[.string (bs x),.bool false,.int .i64 gr] 143)));rw[<- pj.o]at nQ;clear UP HM kO mj;go_wp2;go_roundw
     .exact⟨k+1,a_,by go_num,nQ.o,kX.o⟩
     .simp [intOf];omega
    | true =>
     cases hx1:(x==key)with
     | true =>
      obtain rfl:x=key:=(by simpa using hx1);clear ol hx1;have nQ:=Hd (HM.o.kept (zaA wr (.cells #[.string (bs x),.bool true,.int .i64 gr] 143)));have kX:=Hd (kO.o.trans (zaA wr (.cells #[.string (bs x),.bool true,.int .i64 gr] 143)));rw[<- pj.o]at nQ;clear UP HM kO mj;go_wp2;go_roundw
      .exact⟨k+1,a_,by go_num,nQ.o,kX.o⟩
      .simp [intOf];omega
     | false =>
      have h3:(gr==0)=true:=by
       rw[hx1]at ol;simpa using ol
      obtain rfl:gr=0:=(by simpa using h3);clear ol h3;have nQ:=Hd (HM.o.kept (zaA wr (.cells #[.string (bs x),.bool true,.int .i64 (0:Nat)] 143)));have kX:=Hd (kO.o.trans (zaA wr (.cells #[.string (bs x),.bool true,.int .i64 (0:Nat)] 143)));rw[<- pj.o]at nQ;clear UP HM kO mj;go_wp2;go_roundw
      .exact⟨k+1,a_,by go_num,nQ.o,kX.o⟩
      .simp [intOf];omega
  .obtain rfl:k=ps.length:=a_;rw[nP.o]at HM;have tj:=Hd HM.o;have kT:=Hd kO.o;clear HM kO mD nP th kV;go_wp2_with fail;go_loopw [36] (fun i wr=>∃k:Nat,k<=ps.length/\i=.int .i64 k/\Hi (∀j (hj:j<ps.length),j<k->(ps[j].fld&&((ps[j].txt==key) && !((zhN ps key).contains (ps[j].grp:Int))))=false)/\Hi (MapV wr M (ze7 (zhN ps key)))/\Hi (Kept w wr)) (fun i _=>ps.length - (intOf i).toNat)
   .exact⟨0,ai _,rfl,fun j hj h=>by omega,tj.o,kT.o⟩
   case round =>
    clear tj kT;obtain⟨k,hk,rfl,HN,HM,kO⟩:=hrel;by_cases kV:k<ps.length
    .have hx:=ac kV;obtain⟨g,o,rfl,hg,d0,d1,d2⟩:=(HV.o.kept kO.o).cell_of k _ hx;have qj:=Hd (HF.o k kV);have om:Hi ((ps[k].fld&&((ps[k].txt==key) && !((zhN ps key).contains (ps[k].grp:Int))))=false->∀j (hj:j<ps.length),j<k+1->(ps[j].fld&&((ps[j].txt==key) && !((zhN ps key).contains (ps[j].grp:Int))))=false):=by
      intro h j hj hjk;rcases bG j k with q|q
      .exact HN.o j hj q
      .obtain rfl:j=k:=a_;exact h
     clear hx;generalize ps[k]=p at d0 d1 d2 qj om;obtain⟨x,f,gr⟩:=p;simp only at d0 d1 d2 qj om;cases f with
     | false =>
      have nV:=Hd (om.o rfl);have nQ:=Hd (HM.o.kept (zaA wr (.cells #[.string (bs x),.bool false,.int .i64 gr] 143)));have kX:=Hd (kO.o.trans (zaA wr (.cells #[.string (bs x),.bool false,.int .i64 gr] 143)));have lk:=zx0 (P:=prog) dI bW (wr.alloc (.cells #[.string (bs x),.bool false,.int .i64 gr] 143)) M (ze7 (zhN ps key)) (gr:Int) (.bool false) (fU _) nQ.o;rw[zg1]at lk;clear HM kO;go_wp2;go_roundw
      .exact⟨k+1,a_,by go_num,nV.o,nQ.o,kX.o⟩
      .simp [intOf];omega
     | true =>
      cases hx1:(x==key)with
      | false =>
       have nV:=Hd (om.o (by rw[hx1];rfl));have nQ:=Hd (HM.o.kept (zaA wr (.cells #[.string (bs x),.bool true,.int .i64 gr] 143)));have kX:=Hd (kO.o.trans (zaA wr (.cells #[.string (bs x),.bool true,.int .i64 gr] 143)));have lk:=zx0 (P:=prog) dI bW (wr.alloc (.cells #[.string (bs x),.bool true,.int .i64 gr] 143)) M (ze7 (zhN ps key)) (gr:Int) (.bool false) (fU _) nQ.o;rw[zg1]at lk;clear HM kO;go_wp2;go_roundw
       .exact⟨k+1,a_,by go_num,nV.o,nQ.o,kX.o⟩
       .simp [intOf];omega
      | true =>
       cases nz:(zhN ps key).contains (gr:Int)with
       | true =>
        have nV:=Hd (om.o (by rw[hx1,nz];rfl));obtain rfl:x=key:=(by simpa using hx1);have nQ:=Hd (HM.o.kept (zaA wr (.cells #[.string (bs x),.bool true,.int .i64 gr] 143)));have kX:=Hd (kO.o.trans (zaA wr (.cells #[.string (bs x),.bool true,.int .i64 gr] 143)));have lk:=zx0 (P:=prog) dI bW (wr.alloc (.cells #[.string (bs x),.bool true,.int .i64 gr] 143)) M (ze7 (zhN ps x)) (gr:Int) (.bool false) (fU _) nQ.o;rw[zg1]at lk;rw[nz]at lk;clear nz hx1;clear HM kO;go_wp2;go_roundw
        .exact⟨k+1,a_,by go_num,nV.o,nQ.o,kX.o⟩
        .simp [intOf];omega
       | false =>
        have HR:=Hd (qj.o (by rw[hx1,nz];rfl));obtain rfl:x=key:=(by simpa using hx1);have nQ:=Hd (HM.o.kept (zaA wr (.cells #[.string (bs x),.bool true,.int .i64 gr] 143)));have kX:=Hd (kO.o.trans (zaA wr (.cells #[.string (bs x),.bool true,.int .i64 gr] 143)));have lk:=zx0 (P:=prog) dI bW (wr.alloc (.cells #[.string (bs x),.bool true,.int .i64 gr] 143)) M (ze7 (zhN ps x)) (gr:Int) (.bool false) (fU _) nQ.o;rw[zg1,nz]at lk;clear HM kO nz hx1;go_wp2;go_ret;exact⟨zaY HR.o.symm,kX.o⟩
    .obtain rfl:k=ps.length:=a_;have HR:=Hd (HT.o (fun k hk=>HN.o k hk hk));go_wp2;go_ret;exact⟨zaY HR.o.symm,kO.o⟩
structure StyT where
 name:Bs
 numeric:Bool
 sort:Bs
 cite:Bs
 bare:Bs
 between:Bs
 begin_:Bs
 end_:Bs
 most:Int
 entries:List Pr
def zaK(vE:Value)(y:StyT):Array Value:=#[.string (bs y.name),.bool y.numeric,.string (bs y.sort),.string (bs y.cite),.string (bs y.bare),.string (bs y.between),.string (bs y.begin_),.string (bs y.end_),.int .i64 y.most,vE]
def zfA(vE:Value)(y:StyT):Value:=.agg (zaK vE y)
def zcN:Bs:=[115,117,102,102,105,120]
def zbH:Bs:=[110,117,109,98,101,114]
def zv1(y:StyT):Int:=if zeV y.cite≠0 then zeV y.cite else if zkU (zhM y.cite) (if y.numeric=true then zbH else zcN)=false then 8 else zeV y.bare
def SmallY(y:StyT):Prop:=y.name.length<=100000/\y.sort.length<=100000/\y.cite.length<=100000/\y.bare.length<=100000/\y.between.length<=100000/\y.begin_.length<=100000/\y.end_.length<=100000/\y.entries.length<=10000/\∀p∈y.entries,p.1.length<=100000/\p.2.length<=100000
def ziO:∀(f:Nat) (r:Bs) (G g:Nat) (l:List Pc),zjM f r G g=some l->l.length<=r.length
 | 0,_,_,_,_,h=>by cases h
 | f+1,[],G,g,l,h=>by
  rw[zk5]at h
  split at h
  .cases h;simp
  .cases h
 | f+1,b::r,G,g,l,h=>by
  cases nc:zbN zb0 b with
  | false =>
   rw[zk6 _ _ _ nc,cG]at h;obtain⟨l',h1,rfl⟩:=h;have:=ziO f _ G g l' h1;rw[dO]at this;rcases zvZ (r:=r) nc with⟨_,hn⟩|⟨k,_,hn,hk,hkl⟩
   .rw[hn]at this;simp only[az]at this ⊢;omega
   .rw[hn]at this;simp only[az]at this ⊢;omega
  | true =>
   rcases zeD nc with rfl|rfl|rfl|rfl
   .rw[zk7]at h
    split at h
    .rw[cG]at h;obtain⟨l',h1,rfl⟩:=h;have:=ziO f _ G g l' h1;rw[dO]at this;simp;omega
    .cases h
   .rw[zk8]at h;cases h
   .rw[ziE]at h
    split at h
    .have:=ziO f _ _ _ l h;simp;omega
    .cases h
   .rw[ziF]at h
    split at h
    .cases h
    .have:=ziO f _ _ _ l h;simp;omega
def zo6(t:Bs):(zhM t).length<=t.length:=by
 unfold zhM
 split
 .unfold zo2;cases h:zjM (t.length+1) t 0 0 with
  | none=>simp
  | some l=>exact ziO _ t 0 0 l h
 .simp
def zAP(vE:Value)(y:StyT)(w:World)(hg:Gnd w)(hs:SmallY y):Calls prog 40 #[zfA vE y] w fun e w'=>e=.returned (.int .i64 (zv1 y))/\Kept w w':=by
 have HG:=Hd hg;obtain⟨-,-,s3,s4,-⟩:=hs;have HC:=Hd (fun w h=>zg2 y.cite w h s3);have HB:=Hd (fun w h=>zg2 y.bare w h s4);have hln:=zo6 y.cite;have HF:=Hd (fun v k w h=>zAO v (zhM y.cite) k w h a_);have HE:Hi (zv1 y=if zeV y.cite≠0 then zeV y.cite else if zkU (zhM y.cite) (if y.numeric=true then zbH else zcN)=false then 8 else zeV y.bare):=rfl;unfold SplitP at HC HB;generalize zv1 y=R at *;generalize zeV y.cite=E1 at *;generalize zeV y.bare=E2 at *;generalize zhM y.cite=L at *;clear hg;unfold zfA zaK;have lg:=Hd (zaA w (.cells (zaK vE y) 28));have mv:=Hd (aI w 28 (zaK vE y));unfold zaK at lg mv;go_in;go_wp2_with fail;generalize w.alloc _=w0 at *;generalize w.heap.size=B at *;refine(HC.o _ (HG.o.kept lg.o)).mono ?_;rintro e w1 ⟨v1,rfl,od,ld⟩;have pt:=Hd od;have kT:=Hd (lg.o.trans ld);have ma:=Hd (mv.o.kept ld);obtain⟨a1,c1,rfl,-⟩:=od.form;clear ld od HC;by_cases h1:E1=0
 case neg =>
  rw[ae h1]at HE;have h1':(E1==0)=false:=(by simpa using h1);go_wp2;go_ret;exact⟨zaU HE.o.symm,kT.o⟩
 subst h1;rw[aa b_]at HE;have b1:w1.cell? ⟨B,1,none⟩=some (.bool y.numeric):=ma.o.cell 1 _ rfl;have z1:=ma.o.lt;cases hn:y.numeric
 all_goals
  rw[hn]at b1 HE;simp only[dr,fe,jO]at HE;clear hn
  (first|unfold zcN at HE|unfold zbH at HE)
  go_wp2_with fail;refine k_ (HF.o _ _ _ pt.o) fun w2 ll=>?_;have kX:=Hd (kT.o.trans ll);have lx:=Hd (ma.o.kept ll);clear ll b1 z1;have HG2:=Hd (HG.o.kept kX.o);generalize zkU L _=F at *;cases F with
  | false =>
   rw[ae rfl]at HE;go_wp2;go_ret;exact⟨zaU HE.o.symm,kX.o⟩
  | true =>
   rw[aa b_]at HE;have b4:w2.cell? ⟨B,4,none⟩=some (.string (bs y.bare)):=lx.o.cell 4 _ rfl;have z2:=lx.o.lt;go_wp2_with fail;refine(HB.o _ HG2.o).mono ?_;rintro e w3 ⟨v3,rfl,hp3,li⟩;have lq:=Hd (kX.o.trans li);clear hp3 li;go_wp2;go_ret;exact⟨zaU HE.o.symm,lq.o⟩
def zD3{b:UInt8}{r:Bs}(h:zbN zb0 b=false):zlZ (b::r)=zlZ r+1:=by
 have hge:=gM zb0 r;unfold zbN at h;unfold zlZ;rw[Lib.indexAny,h];simp only[dr,fe,az];by_cases q:Lib.indexAny r zb0 = -1
 .rw[q];rfl
 .have q':(Lib.indexAny r zb0 == -1)=false:=(by rw[ab];exact q);rw[q'];simp only[dr,fe];rw[aa a_,aa a_];omega
def zG1(r:Bs):zlZ r<=r.length:=by
 unfold zlZ
 split
 .exact aw _
 .have:=zhV zb0 r;omega
def ziP:∀(f:Nat) (r:Bs) (G g:Nat) (l:List Pc),zjM f r G g=some l->∀p∈l,0<p.txt.length/\p.txt.length<=r.length/\(p.fld=true->zb5 p.txt 20 []=true)/\(p.fld=false->∃k n,p.txt=(r.drop k).take n)
 | 0,_,_,_,_,h=>by cases h
 | f+1,[],G,g,l,h=>by
  rw[zk5]at h
  split at h
  .cases h;intro p hp;cases hp
  .cases h
 | f+1,b::r,G,g,l,h=>by
  cases nc:zbN zb0 b with
  | false =>
   rw[zk6 _ _ _ nc,cG]at h;obtain⟨l',h1,rfl⟩:=h;have hr:=zD3 (r:=r) nc;have hl:=zG1 (b::r);intro p hp;rcases bj.1 hp with rfl|hp
   .refine⟨by rw[bw];simp only[az];omega,by rw[bw];omega,(fun q=>by cases q),fun _=>⟨0,zlZ (b::r),b_⟩⟩
   .obtain⟨a1,a2,a3,a4⟩:=ziP f _ G g l' h1 p hp;refine⟨a1,by rw[dO]at a2;omega,a3,fun q=>?_⟩;obtain⟨k,n,e⟩:=a4 q;exact⟨zlZ (b::r)+k,n,by rw[e,jr]⟩
  | true =>
   rcases zeD nc with rfl|rfl|rfl|rfl
   .rw[zk7]at h
    split at h
    .rename_i hc;rw[cG]at h;obtain⟨l',h1,rfl⟩:=h;intro p hp;rcases bj.1 hp with rfl|hp
     .refine⟨?_,by rw[bw];simp only[az];omega,fun _=>hc.2,fun q=>by cases q⟩;have h2:=hc.2;unfold zb5 at h2;rw[ba]at h2;have:=dG h2.1;simp at this ⊢;omega
     .obtain⟨a1,a2,a3,a4⟩:=ziP f _ G g l' h1 p hp;refine⟨a1,by rw[dO]at a2;simp only[az];omega,a3,fun q=>?_⟩;obtain⟨k,n,e⟩:=a4 q;exact⟨zaM 125 r+1+1+k,n,by rw[e,jr,show zaM 125 r+1+1+k=(zaM 125 r+1+k)+1 by omega,dC]⟩
    .cases h
   .rw[zk8]at h;cases h
   .rw[ziE]at h
    split at h
    .intro p hp;obtain⟨a1,a2,a3,a4⟩:=ziP f _ _ _ l h p hp;refine⟨a1,by simp only[az];omega,a3,fun q=>?_⟩;obtain⟨k,n,e⟩:=a4 q;exact⟨k+1,n,by rw[e,dC]⟩
    .cases h
   .rw[ziF]at h
    split at h
    .cases h
    .intro p hp;obtain⟨a1,a2,a3,a4⟩:=ziP f _ _ _ l h p hp;refine⟨a1,by simp only[az];omega,a3,fun q=>?_⟩;obtain⟨k,n,e⟩:=a4 q;exact⟨k+1,n,by rw[e,dC]⟩
def zD4{t:Bs}{l:List Pc}(h:zo2 t=some l):∀p∈l,0<p.txt.length/\p.txt.length<=t.length/\(p.fld=true->zb5 p.txt 20 []=true)/\(p.fld=false->∃k n,p.txt=(t.drop k).take n) :=
 ziP _ t 0 0 l h
def zv2{t:Bs}:∀p∈zhM t,0<p.txt.length/\p.txt.length<=t.length/\(p.fld=true->zb5 p.txt 20 []=true):=by
 intro p hp;unfold zhM at hp
 split at hp
 .cases h:zo2 t with
  | none=>rw[h]at hp;cases hp
  | some l =>
   rw[h]at hp;obtain⟨a,b,c,_⟩:=zD4 h p hp;exact⟨a,b,c⟩
 .cases hp
def zcT(ps:List Pc)(val:Bs->Bs):List Int:=(ps.filter fun p=>p.fld&&(!(p.grp==0)&&(val p.txt==[]))).map fun p=>(p.grp:Int)
def zhI(val:Bs->Bs)(ds:List Int)(p:Pc):Bs:=if ds.contains (p.grp:Int)=true then []else if p.fld=true then val p.txt else p.txt
def zrI(ps:List Pc)(val:Bs->Bs):Bs:=ps.flatMap (zhI val (zcT ps val))
abbrev Word:=Bs×Bs×Bs
def zl4(x:Word)(i:Nat):MapEntry:={ key:=.string (bs x.1),val:=.agg #[.string (bs x.2.1),.string (bs x.2.2)],born:=i }
def zgA(l:List Word):Array MapEntry:=(l.mapIdx fun i x=>zl4 x i).toArray
def zqP(w:World)(l:List Word):World:=w.alloc (.map (zgA l) l.length)
def zl5(w:World)(l:List Word):(zqP w l).heap[w.heap.size]? = some (.map (zgA l) l.length):=by
 unfold zqP;exact el w _
def zt1(l:List Word)(x:Word):zgA (l++[x])=(zgA l).push (zl4 x l.length):=by
 unfold zgA;rw[gb];simp
def zkE(a b:Bs):(bs a==bs b)=(a==b):=by
 show((bs a).data==(bs b).data)=_;rw[dX,bh,bh];exact⟨fun h=>by have:=congrArg Array.toList h;exact this,fun h=>by rw[h]⟩
def zkF(k:Bs):∀(l:List Word) (i j:Nat),(∀x∈l,x.1≠k)->Instr.findNow .string (.string (bs k)) (l.mapIdx fun i' x=>zl4 x (i'+i)) j=some none
 | [],_,_,_=>rfl
 | x::l,i,j,h=>by
  have hx:(bs k==bs x.1)=false:=(by rw[zkE,ab];exact fun e=>h x b_ e.symm);rw[fh];unfold Instr.findNow;simp only[zl4,Instr.sameNow,hx];have:=zkF k l (i+1) (j+1) (fun y hy=>h y (by simp [hy]));simp only[zl4]at this;rw[<- this];congr 1;apply im;intro m;simp [eY];cases l[m]?<;>simp;omega
def zkG(k a b:Bs):∀(l:List Word) (i j:Nat),l.find? (fun x=>x.1==k)=some (k,a,b)->∃m,Instr.findNow .string (.string (bs k)) (l.mapIdx fun i' x=>zl4 x (i'+i)) j=some (some (m,.agg #[.string (bs a),.string (bs b)]))
 | [],_,_,h=>by cases h
 | x::l,i,j,h=>by
  rw[fh];unfold Instr.findNow;by_cases q:x.1=k
  .have hx:(bs k==bs x.1)=true:=(by rw[zkE,bh];exact q.symm);rw[iV (by simpa using q)]at h;cases h;simp only[zl4,Instr.sameNow,hx];exact⟨_,rfl⟩
  .have hx:(bs k==bs x.1)=false:=(by rw[zkE,ab];exact fun e=>q e.symm);rw[List.find?_cons_of_neg (by simpa using q)]at h;simp only[zl4,Instr.sameNow,hx];obtain⟨m,hm⟩:=zkG k a b l (i+1) (j+1) h;refine⟨m,?_⟩;simp only[zl4]at hm;rw[<- hm];congr 1;apply im;intro m;simp [eY];cases l[m]?<;>simp;omega
def zl6(l:List Word):(zgA l).toList=l.mapIdx fun i' x=>zl4 x (i'+0):=by simp [zgA]
def zlC(w:World):(Instr.makeMap 251 none).run prog w=.ok (.map (some w.heap.size)) (zqP w []):=by
 rw[ep];rfl
def zfB(e:Bool)(s:ByteArray)(w:World):(Instr.checkKey e 10000 9 (.string s)).run prog w=.ok () w:=by
 show(Instr.checkKey e (9999+1) 9 (.string s)).run prog w=.ok () w;rw[Instr.checkKey];simp only[bo,bT aq,Result.andThen];simp [bn]
def ziQ(w:World)(l:List Word)(k:Bs)(hk:∀x∈l,x.1≠k):(Instr.findKey 9 (.string (bs k)) (zgA l).toList).run prog w=.ok none w:=by
 unfold Instr.findKey;simp only[bo,bT aq,Result.andThen,zl6,zkF k l 0 0 hk];simp [bn]
def zo7(w:World)(l:List Word)(k a b:Bs)(hk:l.find? (fun x=>x.1==k)=some (k,a,b)):∃m,(Instr.findKey 9 (.string (bs k)) (zgA l).toList).run prog w=.ok (some (m,.agg #[.string (bs a),.string (bs b)])) w:=by
 obtain⟨m,hm⟩:=zkG k a b l 0 0 hk;refine⟨m,?_⟩;unfold Instr.findKey;simp only[bo,bT aq,Result.andThen,zl6,hm];simp [bn]
def zD5(w:World)(l:List Word)(x:Word):{ zqP w l with heap:=(zqP w l).heap.setIfInBounds w.heap.size (.map ((zgA l).push (zl4 x l.length)) (l.length+1)) }=zqP w (l++[x]):=by
 unfold zqP;rw[zt1];simp only[World.alloc,ah,az,cj];congr 1;apply Array.ext';simp [Array.setIfInBounds,Array.toList_push]
def zG2(w:World)(l:List Word)(k a b:Bs)(hk:∀x∈l,x.1≠k):(Instr.mapUpdate 251 (.map (some w.heap.size)) (.string (bs k)) (.agg #[.string (bs a),.string (bs b)])).run prog (zqP w l)=.ok () (zqP w (l++[(k,a,b)])):=by
 have hu:prog.underlying 251=some (.map 9 249):=jG;unfold Instr.mapUpdate;simp only[bo,bT hu,Result.andThen];simp only[getObj,bo,Sem.run,zl5,Result.andThen,bn,zfB,ziQ _ l k hk,setObj];exact congrArg (Result.ok ()) (zD5 w l (k,a,b))
def zv3(w:World)(r:Nat)(l:List Word)(k a b:Bs)(hm:w.heap[r]? = some (.map (zgA l) l.length))(hk:l.find? (fun x=>x.1==k)=some (k,a,b)):(Instr.lookup 251 (.map (some r)) (.string (bs k)) true).run prog w=.ok (.tuple #[.agg #[.string (bs a),.string (bs b)],.bool true]) w:=by
 have hu:prog.underlying 251=some (.map 9 249):=jG;obtain⟨m,hf⟩:=zo7 w l k a b hk;unfold Instr.lookup;simp only[bo,bT hu,Result.andThen];simp only[getObj,bo,Sem.run,hm,Result.andThen,bn,zfB,hf];simp [bn]
def zAQ(k:Bs)(i:Nat):MapEntry:={ key:=.string (bs k),val:=.bool true,born:=i }
def zo8(ks:List Bs):Array MapEntry:=(ks.mapIdx fun i k=>zAQ k i).toArray
def MapK(w:World)(m:Nat)(ks:List Bs):Prop:=w.heap[m]? = some (.map (zo8 ks) ks.length)
def zo9(w:World)(m:Nat)(ks:List Bs):World:={ w with heap:=w.heap.setIfInBounds m (.map (zo8 ks) ks.length) }
def MapK.lt{w:World}{m:Nat}{ks:List Bs}(h:MapK w m ks):m<w.heap.size:=by
 rcases bG m w.heap.size with q|q
 .exact q
 .unfold MapK at h;rw[bB q]at h;cases h
def MapK.only{S:Nat->Prop}{w w':World}{m:Nat}{ks:List Bs}(h:MapK w m ks)(k:Only S w w')(hs:¬ S m):MapK w' m ks:=by
 unfold MapK at h ⊢;rw[k.block m (MapK.lt h) hs];exact h
def zg3(w:World)(m:Nat)(ks:List Bs)(hm:m<w.heap.size):MapK (zo9 w m ks) m ks:=by
 unfold MapK zo9;simp [hm]
def zdX(w:World)(m:Nat)(ks:List Bs):Only (fun i=>i=m) w (zo9 w m ks) :=
 ⟨rfl,rfl,rfl,by simp [zo9],fun k hk hs=>by simp [zo9,eH,ke hs]⟩
def zx3(ks:List Bs)(k:Bs):zo8 (ks++[k])=(zo8 ks).push (zAQ k ks.length):=by
 unfold zo8;rw[gb];simp
def zn0(k:Bs):∀(l:List Bs) (i j:Nat),k∉l->Instr.findNow .string (.string (bs k)) (l.mapIdx fun i' x=>zAQ x (i'+i)) j=some none
 | [],_,_,_=>rfl
 | x::l,i,j,h=>by
  have hx:(bs k==bs x)=false:=(by rw[zkE,ab];exact fun e=>h (by simp [e]));rw[fh];unfold Instr.findNow;simp only[zAQ,Instr.sameNow,hx];have:=zn0 k l (i+1) (j+1) (fun e=>h (by simp [e]));simp only[zAQ]at this;rw[<- this];congr 1;apply im;intro m;simp [eY];cases l[m]?<;>simp;omega
def zn1(k:Bs):∀(l:List Bs) (i j:Nat),k∈l->∃m,Instr.findNow .string (.string (bs k)) (l.mapIdx fun i' x=>zAQ x (i'+i)) j=some (some (m,.bool true))
 | [],_,_,h=>by cases h
 | x::l,i,j,h=>by
  rw[fh];unfold Instr.findNow;by_cases q:x=k
  .have hx:(bs k==bs x)=true:=(by rw[zkE,bh];exact q.symm);simp only[zAQ,Instr.sameNow,hx];exact⟨_,rfl⟩
  .have hx:(bs k==bs x)=false:=(by rw[zkE,ab];exact fun e=>q e.symm);have hl:k∈l:=(by rcases bj.1 h with e|e;exact absurd e.symm q;exact e);simp only[zAQ,Instr.sameNow,hx];obtain⟨m,hm⟩:=zn1 k l (i+1) (j+1) hl;refine⟨m,?_⟩;simp only[zAQ]at hm;rw[<- hm];congr 1;apply im;intro m;simp [eY];cases l[m]?<;>simp;omega
def zn2(l:List Bs):(zo8 l).toList=l.mapIdx fun i' x=>zAQ x (i'+0):=by simp [zo8]
def zrJ(w:World)(l:List Bs)(k:Bs)(hk:k∉l):(Instr.findKey 9 (.string (bs k)) (zo8 l).toList).run prog w=.ok none w:=by
 unfold Instr.findKey;simp only[bo,bT aq,Result.andThen,zn2,zn0 k l 0 0 hk];simp [bn]
def zAR(w:World)(l:List Bs)(k:Bs)(hk:k∈l):∃m,(Instr.findKey 9 (.string (bs k)) (zo8 l).toList).run prog w=.ok (some (m,.bool true)) w:=by
 obtain⟨m,hm⟩:=zn1 k l 0 0 hk;refine⟨m,?_⟩;unfold Instr.findKey;simp only[bo,bT aq,Result.andThen,zn2,hm];simp [bn]
def MapK_kept{w w':World}{m:Nat}{ks:List Bs}(h:MapK w m ks)(k:Kept w w'):MapK w' m ks:=h.only (bc (S:=fun _=>False) k) (fun q=>q)
def MapK_made(w:World):MapK (w.alloc (.map #[] 0)) w.heap.size []:=el w _
def zAS(w:World):(zeroValue 4).run prog w=.ok (.bool false) w:=g_
def zx4(w:World)(m:Nat)(ks:List Bs)(k:Bs)(h:MapK w m ks):(Instr.lookup 81 (.map (some m)) (.string (bs k)) false).run prog w=.ok (.bool (ks.contains k)) w:=by
 have hu:prog.underlying 81=some (.map 9 4):=underlying81;unfold MapK at h;unfold Instr.lookup;simp only[bo,bT hu,Result.andThen];by_cases hk:k∈ks
 .obtain⟨j,hf⟩:=zAR w ks k hk;have hc:ks.contains k=true:=(by simpa using hk);simp only[getObj,bo,Sem.run,h,Result.andThen,bn,zfB,hf,hc];simp [bn]
 .have hf:=zrJ w ks k hk;have hc:ks.contains k=false:=(by simpa using hk);simp only[getObj,bo,Sem.run,h,Result.andThen,bn,zfB,hf,hc,zAS];simp [bn]
def zIO(w:World)(m:Nat)(ks:List Bs)(k:Bs)(h:MapK w m ks)(hk:k∉ks):(Instr.mapUpdate 81 (.map (some m)) (.string (bs k)) (.bool true)).run prog w=.ok () (zo9 w m (ks++[k])):=by
 have hu:prog.underlying 81=some (.map 9 4):=underlying81;unfold MapK at h;unfold Instr.mapUpdate;simp only[bo,bT hu,Result.andThen];simp only[getObj,bo,Sem.run,h,Result.andThen,bn,zfB,zrJ _ ks k hk,setObj];refine congrArg (Result.ok ()) ?_;unfold zo9;rw[zx3];simp [zAQ]
def MapK.kept{w w':World}{m:Nat}{ks:List Bs}(h:MapK w m ks)(k:Kept w w'):MapK w' m ks:=h.only (bc (S:=fun _=>False) k) (fun q=>q)
def zG3:List Bs->List Pr->Int
 | ks,[]=>if ks.contains [42]=true then 0 else 8
 | ks,p::ps=>if(p.1==[42])=false/\zb5 p.1 20 []=false then 6 else if ks.contains p.1=true then 7 else if zeV p.2≠0 then zeV p.2 else zG3 (ks++[p.1]) ps
def zz9(ps:List Pr):Int:=zG3 [] ps
def MapK.made(w:World):MapK (w.alloc (.map #[] 0)) w.heap.size []:=el w _
def zpA(ks:List Bs):zG3 ks []=if ks.contains [42]=true then 0 else 8:=rfl
def zgO(ks:List Bs)(p:Pr)(ps:List Pr):zG3 ks (p::ps)=if(p.1==[42])=false/\zb5 p.1 20 []=false then 6 else if ks.contains p.1=true then 7 else if zeV p.2≠0 then zeV p.2 else zG3 (ks++[p.1]) ps:=rfl
def zAT(v:Value)(ps:List Pr)(w:World)(hg:Gnd w)(hv:Prs w v ps)(hn:ps.length<=100000)(hl:∀p∈ps,p.1.length<=100000/\p.2.length<=100000):Calls prog 42 #[v] w fun e w'=>e=.returned (.int .i64 (zz9 ps))/\Kept w w':=by
 have HG:=Hd hg;have HV:=Hd hv;have uT:=Hd hl;obtain⟨a,c,rfl,hc⟩:=hv.form;have H0:Hi (zz9 ps=zG3 [] (ps.drop 0)):=rfl;have mk:=fun w=>ep (P:=prog) 81 w;generalize zz9 ps=R at *;clear hv hl hg;go_in;go_wp2_with fail;have Cr:=Hd (MapK.made w);have lg:=Hd (zaA w (.map #[] 0));generalize w.alloc (.map #[] 0)=w0 at *;obtain⟨M,CY⟩:=gX w.heap.size;have tT:w.heap.size<=M:=(by rw[CY.o];exact aw _);rw[CY.o]at Cr ⊢;go_loopw [11] (fun i wr=>∃(k:Nat) (ks:List Bs),k<=ps.length/\i=.int .i64 k/\Hi (R=zG3 ks (ps.drop k))/\Hi (MapK wr M ks)/\Hi (Kept w wr)) (fun i _=>ps.length - (intOf i).toNat)
 .exact⟨0,[],ai _,rfl,H0.o,Cr.o,lg.o⟩
 case round =>
  obtain⟨k,ks,hk,rfl,HA,HM,kO⟩:=hrel;by_cases kV:k<ps.length
  .obtain⟨p,hx⟩:∃x,ps[k]? = some x:=⟨_,ac kV⟩;obtain⟨g,o,rfl,hg,d0,d1,-,-⟩:=(HV.o.kept kO.o).cell_of k p hx;obtain⟨hl1,hl2⟩:=uT.o p (am hx);have HD:Hi (ps.drop k=p::ps.drop (k+1)):=by
    show _=_;obtain⟨hk',rfl⟩:=ak.1 hx;exact aJ hk'
   rw[HD.o,zgO]at HA;obtain⟨x,y⟩:=p;simp only at d0 d1 hl1 hl2 HA;have HS:=Hd (fun w=>zjN x [] 20 w a_);have nh:=Hd (fun w h=>zg2 y w h hl2);unfold SplitP at nh;have tj:=Hd (HM.o.kept (zaA wr (.cells #[.string (bs x),.string (bs y)] 46)));have kT:=Hd (kO.o.trans (zaA wr (.cells #[.string (bs x),.string (bs y)] 46)));have ma:=Hd (aI wr 46 #[.string (bs x),.string (bs y)]);have tV:=HM;clear hx HD HM kO;by_cases hb:(x==[42])=false/\zb5 x 20 []=false
   .rw[ae hb]at HA;obtain⟨q1,q2⟩:=hb;rw[q2]at HS;clear q2;go_wp2_with fail;refine k_ (HS.o _) fun w2 ll=>?_;have kX:=Hd (kT.o.trans ll);clear ll;go_wp2;go_ret;exact⟨zaU HA.o.symm,kX.o⟩
   rw[aa hb]at HA;have mV:(x==[42])=true\/((x==[42])=false/\zb5 x 20 []=true):=by
    cases e1:(x==[42])
    .cases e2:zb5 x 20 []
     .exact absurd ⟨e1,e2⟩ hb
     .exact .inr ⟨rfl,rfl⟩
    .exact .inl rfl
   clear hb;have GV:Hi (M<wr.heap.size):=tV.o.lt;rcases mV with mX|⟨mX,mF⟩
   .obtain rfl:x=[42]:=(by simpa using mX);have tW:=tj;have lD:=kT;have xF:=ma;clear mX HS tj kT ma;have lk:=zx4 (wr.alloc (.cells #[.string (bs [42]),.string (bs y)] 46)) M ks [42] tW.o;cases nz:ks.contains [42]with
    | true =>
     rw[nz]at lk HA;rw[ae rfl]at HA;clear nz;go_wp2;go_ret;exact⟨zaU HA.o.symm,lD.o⟩
    | false =>
     have hnm:[42]∉ks:=by
      intro q;rw[<- bR,nz]at q;cases q
     rw[nz]at lk HA;rw[aa b_]at HA;have up:=zIO (wr.alloc (.cells #[.string (bs [42]),.string (bs y)] 46)) M ks [42] tW.o hnm;have vh:=tW.o.lt;have lV:¬ wr.heap.size=M:=(by have:=GV.o;omega);have tU:=Hd (zg3 (wr.alloc (.cells #[.string (bs [42]),.string (bs y)] 46)) M (ks++[[42]]) vh);have lq:=Hd (zb6 lD.o (zdX (wr.alloc (.cells #[.string (bs [42]),.string (bs y)] 46)) M (ks++[[42]])) tT);have nl:=Hd (xF.o.onl (zdX (wr.alloc (.cells #[.string (bs [42]),.string (bs y)] 46)) M (ks++[[42]])) lV);have v1:(zo9 (wr.alloc (.cells #[.string (bs [42]),.string (bs y)] 46)) M (ks++[[42]])).cell? ⟨wr.heap.size,1,none⟩=some (.string (bs y)):=nl.o.cell 1 _ rfl;have zv:=nl.o.lt;have A0:=Hd (nh.o (zo9 (wr.alloc (.cells #[.string (bs [42]),.string (bs y)] 46)) M (ks++[[42]])) (HG.o.kept lq.o));clear nz hnm vh;by_cases h5:zeV y=0
     case neg =>
      rw[ae h5]at HA;generalize zeV y=E at *;have h5':(E==0)=false:=(by simpa using h5);go_wp2_with fail;refine A0.o.mono ?_;rintro e w4 ⟨v4,rfl,yj,mu⟩;have mg:=Hd (lq.o.trans mu);clear yj mu;go_wp2;go_ret;exact⟨zaU HA.o.symm,mg.o⟩
     rw[aa (by simpa using h5)]at HA;rw[h5]at A0;go_wp2_with fail;refine A0.o.mono ?_;rintro e w4 ⟨v4,rfl,yj,mu⟩;have mg:=Hd (lq.o.trans mu);have rC:=Hd (tU.o.kept mu);obtain⟨a4,c4,rfl,-⟩:=yj.form;clear yj mu v1 zv lk up;go_wp2;go_roundw
     .exact⟨k+1,ks++[[42]],a_,by go_num,HA.o,rC.o,mg.o⟩
     .simp [intOf];omega
   .rw[mF]at HS;clear mF;go_wp2_with fail;refine k_ (HS.o _) fun w2 ll=>?_;have lD:=Hd (kT.o.trans ll);have tW:=Hd (tj.o.kept ll);have xF:=Hd (ma.o.kept ll);have t0:w2.cell? ⟨wr.heap.size,0,none⟩=some (.string (bs x)):=xF.o.cell 0 _ rfl;have zt:=xF.o.lt;clear ll kT tj ma d0 d1 hg;obtain⟨B,mW⟩:=gX wr.heap.size;rw[mW.o]at xF t0 zt GV ⊢;have lk:=zx4 w2 M ks x tW.o;cases nz:ks.contains x with
    | true =>
     rw[nz]at lk HA;rw[ae rfl]at HA;clear nz;go_wp2;go_ret;exact⟨zaU HA.o.symm,lD.o⟩
    | false =>
     have hnm:x∉ks:=by
      intro q;rw[<- bR,nz]at q;cases q
     rw[nz]at lk HA;rw[aa b_]at HA;have up:=zIO w2 M ks x tW.o hnm;have vh:=tW.o.lt;have lV:¬ B=M:=(by have:=GV.o;omega);have tU:=Hd (zg3 w2 M (ks++[x]) vh);have lq:=Hd (zb6 lD.o (zdX w2 M (ks++[x])) tT);have nl:=Hd (xF.o.onl (zdX w2 M (ks++[x])) lV);have v1:(zo9 w2 M (ks++[x])).cell? ⟨B,1,none⟩=some (.string (bs y)):=nl.o.cell 1 _ rfl;have zv:=nl.o.lt;have A0:=Hd (nh.o (zo9 w2 M (ks++[x])) (HG.o.kept lq.o));clear nz hnm vh;by_cases h5:zeV y=0
     case neg =>
      rw[ae h5]at HA;generalize zeV y=E at *;have h5':(E==0)=false:=(by simpa using h5);go_wp2_with fail;refine A0.o.mono ?_;rintro e w4 ⟨v4,rfl,yj,mu⟩;have mg:=Hd (lq.o.trans mu);clear yj mu;go_wp2;go_ret;exact⟨zaU HA.o.symm,mg.o⟩
     rw[aa (by simpa using h5)]at HA;rw[h5]at A0;go_wp2_with fail;refine A0.o.mono ?_;rintro e w4 ⟨v4,rfl,yj,mu⟩;have mg:=Hd (lq.o.trans mu);have rC:=Hd (tU.o.kept mu);obtain⟨a4,c4,rfl,-⟩:=yj.form;clear yj mu v1 zv lk up;go_wp2;go_roundw
     .exact⟨k+1,ks++[x],a_,by go_num,HA.o,rC.o,mg.o⟩
     .simp [intOf];omega
  .obtain rfl:k=ps.length:=a_;rw[db (aw _),zpA]at HA;have lk:=zx4 wr M ks [42] HM.o;cases nz:ks.contains [42]with
   | true =>
    rw[nz]at lk HA;rw[ae rfl]at HA;clear nz;go_wp2;go_ret;exact⟨zaU HA.o.symm,kO.o⟩
   | false =>
    rw[nz]at lk HA;rw[aa b_]at HA;clear nz;go_wp2;go_ret;exact⟨zaU HA.o.symm,kO.o⟩
def zeW:Bs:=[97,117,116,104,111,114]
def zeK:Bs:=[121,101,97,114]
def zrK:Bs:=[116,105,116,108,101]
def zDE:Bs:=[107,101,121]
def zx5(x:Bs):Bool:=x==zeW || (x==zeK || (x==zrK || x==zDE))
def zG4(ws:List Bs):Bool:=(List.range ws.length).any fun i=>(ws.take i).contains (ws.getD i [])
def zv4(l:Bs):Int:=if l=[]then 0 else if(zbB 32 l).all zx5=false then 13 else if zG4 (zbB 32 l)=true then 7 else 0
def zD6{ws:List Bs}{i:Nat}(h:i<ws.length)(hc:(ws.take i).contains ws[i]=true):zG4 ws=true:=by
 unfold zG4;refine dv.2 ⟨i,by simpa using h,?_⟩;rw[cd,ac h];exact hc
def zG5{ws:List Bs}(h:∀i (hi:i<ws.length),(ws.take i).contains ws[i]=false):zG4 ws=false:=by
 unfold zG4;rw[eD];intro i hi;have hi':i<ws.length:=(by simpa using hi);rw[cd,ac hi'];have:=h i hi';simp only[dE];rw[this];simp
def zAU{x:Bs}(h:zx5 x=false):(x==zeW)=false/\(x==zeK)=false/\(x==zrK)=false/\(x==zDE)=false:=by
 unfold zx5 at h;simp only[Bool.or_eq_false_iff]at h;exact⟨h.1,h.2.1,h.2.2.1,h.2.2.2⟩
def zv5{x:Bs}(h:zx5 x=true):x=zeW\/x=zeK\/x=zrK\/x=zDE:=by
 unfold zx5 at h;simpa using h
def zn3(w:World)(xs:List Bs):Strs (w.alloc (.cells (zaL xs).toArray 9)) (.slice (some ⟨w.heap.size,0,none⟩) xs.length xs.length) xs:=by
 refine⟨_,_,rfl,aw _,fun _=>⟨w.heap.size,0,rfl,b_,fun j x hx=>?_⟩⟩;have hb:=aI w 9 (zaL xs).toArray;refine hb.cell (0+j) _ ?_;rw[bP,dK];unfold zaL;rw[dy,hx];rfl
def zAV(l:Bs)(w:World)(hg:Gnd w)(hl:l.length<=100000):Calls prog 39 #[.string (bs l)] w fun e w'=>e=.returned (.int .i64 (zv4 l))/\Kept w w':=by
 by_cases h0:l=[]
 .subst h0;go_in;go_wp2;go_ret;exact⟨rfl,af _⟩
 have h0':(l==([]:Bs))=false:=(by simpa using h0);have HE:Hi (zv4 l=if(zbB 32 l).all zx5=false then 13 else if zG4 (zbB 32 l)=true then 7 else 0):=by
  show _=_;unfold zv4;rw[aa h0]
 have nh:=Hd (zqX l 32 w hg a_);have hwl:(zbB 32 l).length<=100001:=by
  rw[zd7];have:=gG (a:=(32:UInt8)) (l:=l);omega
 clear hg;generalize zv4 l=R at *;generalize zbB 32 l=ws at *;go_in;go_wp2_with fail;refine nh.o.mono ?_;rintro e w1 ⟨rfl,rfl⟩;have kT:=Hd (zaA w (.cells (zaL ws).toArray 9));have mt:=Hd (zn3 w ws);generalize w.alloc (.cells (zaL ws).toArray 9)=w1 at *;generalize w.heap.size=B at *;clear nh;go_wp2_with fail;go_loopw [16] (fun i wr=>∃k:Nat,k<=ws.length/\i=.int .i64 k/\Hi (∀j (hj:j<ws.length),j<k->zx5 ws[j]=true)/\Hi (Kept w1 wr)) (fun i _=>ws.length - (intOf i).toNat)
 .exact⟨0,ai _,rfl,fun j hj h=>by omega,af _⟩
 case round =>
  obtain⟨k,hk,rfl,HN,kO⟩:=hrel;by_cases kV:k<ws.length
  .have hx:=ac kV;obtain⟨g,o,he,hg,d0,-,-⟩:=(mt.o.kept kO.o).cell_of k _ hx;cases he;rw[bP]at d0;have om:Hi (zx5 ws[k]=true->∀j (hj:j<ws.length),j<k+1->zx5 ws[j]=true):=by
    intro h j hj hjk;rcases bG j k with q|q
    .exact HN.o j hj q
    .obtain rfl:j=k:=a_;exact h
   have HBAD:Hi (zx5 ws[k]=false->R=13):=by
    intro h;rw[HE.o,ae];exact io.2 ⟨ws[k],dm kV,by rw[h];simp⟩
   clear hx;generalize ws[k]=x at *;cases hs:zx5 x with
   | false =>
    have HR:=Hd (HBAD.o hs);obtain⟨c1,c2,c3,c4⟩:=zAU hs;clear hs;unfold zeW at c1;unfold zeK at c2;unfold zrK at c3;unfold zDE at c4;go_wp2;go_ret;exact⟨zaU HR.o.symm,kT.o.trans kO.o⟩
   | true =>
    have nV:=Hd (om.o hs);have hc:=zv5 hs;clear hs HBAD om HN;rcases hc with rfl|rfl|rfl|rfl
    all_goals
     (first|unfold zeW at d0|unfold zeK at d0|unfold zrK at d0|unfold zDE at d0)
     go_wp2;go_roundw
     .exact⟨k+1,a_,by go_num,nV.o,kO.o⟩
     .simp [intOf];omega
  .obtain rfl:k=ws.length:=a_;have HE2:Hi (R=if zG4 ws=true then 7 else 0):=by
    show _=_;rw[HE.o,aa];rw[Bool.not_eq_false];refine dn.2 (fun b hb=>?_);obtain⟨j,hj,e⟩:=dZ hb;rw[<- e];exact HN.o j hj hj
   have HD1:Hi (∀i (hi:i<ws.length),(ws.take i).contains ws[i]=true->R=7):=fun i hi h=>(by rw[HE2.o,ae (zD6 hi h)]);have HD2:Hi ((∀i (hi:i<ws.length),(ws.take i).contains ws[i]=false)->R=0):=fun h=>(by rw[HE2.o,zG5 h];rfl);have pN:=Hd kO.o;clear HE HE2 HN kO kV;go_wp2_with fail;go_loopw [29] (fun i wr=>∃k:Nat,k<=ws.length/\i=.int .i64 k/\Hi (∀j (hj:j<ws.length),j<k->(ws.take j).contains ws[j]=false)/\Hi (Kept w1 wr)) (fun i _=>ws.length - (intOf i).toNat)
   .exact⟨0,ai _,rfl,fun j hj h=>by omega,pN.o⟩
   case round =>
    clear pN;obtain⟨k,hk,rfl,HN,kO⟩:=hrel;by_cases kV:k<ws.length
    .have hx:=ac kV;obtain⟨g,o,he,hg,d0,-,-⟩:=(mt.o.kept kO.o).cell_of k _ hx;cases he;rw[bP]at d0;have om:Hi ((ws.take k).contains ws[k]=false->∀j (hj:j<ws.length),j<k+1->(ws.take j).contains ws[j]=false):=by
      intro h j hj hjk;rcases bG j k with q|q
      .exact HN.o j hj q
      .obtain rfl:j=k:=a_;exact h
     have qj:=Hd (HD1.o k kV);have GW:Hi (∀i (hi:i<ws.length),i<k->ws[i]=ws[k]->(ws.take k).contains ws[k]=true):=fun i hi hik e=>by
      rw[bR,<- e];exact kK.2 ⟨i,a_,rfl⟩
     have CZ:Hi ((∀i (hi:i<ws.length),i<k->ws[i]≠ws[k])->(ws.take k).contains ws[k]=false):=fun h=>by
      rw[eE];intro q;rw[bR]at q;obtain⟨i,hi,e⟩:=kK.1 q;exact h i a_ a_ e
     have ld:(k:Int)<=(ws.length:Int):=a_;have pN:=Hd kO.o;clear hx HN kO;generalize ws[k]=x at *;go_wp2_with fail;go_loopw [38] (fun i wr=>∃m:Nat,m<=k/\i=.int .i64 m/\Hi (∀j (hj:j<ws.length),j<m->ws[j]≠x)/\Hi (Kept w1 wr)) (fun i _=>k - (intOf i).toNat)
     .exact⟨0,ai _,rfl,fun j hj h=>by omega,pN.o⟩
     case round =>
      clear pN hg d0;obtain⟨m,hm,rfl,HM,kO⟩:=hrel;by_cases ox:m<k
      .have zx:m<ws.length:=a_;have hy:=ac zx;obtain⟨g,o,he,hg,d0,-,-⟩:=(mt.o.kept kO.o).cell_of m _ hy;cases he;rw[bP]at d0;have HH:=Hd (GW.o m zx ox);have sy:Hi (ws[m]≠x->∀j (hj:j<ws.length),j<m+1->ws[j]≠x):=by
        intro h j hj hjk;rcases bG j m with q|q
        .exact HM.o j hj q
        .obtain rfl:j=m:=a_;exact h
       clear hy HM;generalize ws[m]=y at *;by_cases hxy:y=x
       .have HR:=Hd (qj.o (HH.o hxy));subst hxy;go_wp2;go_ret;exact⟨zaU HR.o.symm,kT.o.trans kO.o⟩
       .have hxy':(y==x)=false:=(by simpa using hxy);have nV:=Hd (sy.o hxy);clear hxy;go_wp2;go_roundw
        .exact⟨m+1,a_,by go_num,nV.o,kO.o⟩
        .simp [intOf];omega
      .obtain rfl:m=k:=a_;have nV:=Hd (om.o (CZ.o (fun i hi hik=>HM.o i hi hik)));clear HM;go_wp2;go_roundw
       .exact⟨m+1,a_,by go_num,nV.o,kO.o⟩
       .simp [intOf];omega
    .obtain rfl:k=ws.length:=a_;have HR:=Hd (HD2.o (fun i hi=>HN.o i hi hi));go_wp2;go_ret;exact⟨zaU HR.o.symm,kT.o.trans kO.o⟩
def zpB:Bs:=[48,49,50,51,52,53,54,55,56,57,45]
def zcU(y:StyT):Int :=
 if 128<y.entries.length then 3
 else if zb5 y.name 60 zpB=false then 6
 else if zv4 y.sort≠0 then zv4 y.sort
 else if zv1 y≠0 then zv1 y
 else if lnB y.between=false\/lnB y.begin_=false\/lnB y.end_=false then 17
 else if y.most<1\/32<y.most then 9
 else zz9 y.entries
def zjP(vE:Value)(y:StyT)(w:World)(hg:Gnd w)(hs:SmallY y)(hv:Prs w vE y.entries):Calls prog 21 #[zfA vE y] w fun e w'=>e=.returned (.int .i64 (zcU y))/\Kept w w':=by
 have HG:=Hd hg;have HV:=Hd hv;have pJ:=Hd hs;obtain⟨s1,s2,s3,s4,s5,s6,s7,s8,s9⟩:=hs;have H1:=Hd (fun w=>zjN y.name zpB 60 w a_);have H2:=Hd (fun w h=>zAV y.sort w h s2);have H3:=Hd (fun w h=>zAP vE y w h pJ.o);have H4:=Hd (fun w=>ziG y.between w a_);have H5:=Hd (fun w=>ziG y.begin_ w a_);have H6:=Hd (fun w=>ziG y.end_ w a_);have H7:=Hd (fun w h h'=>zAT vE y.entries w h h' a_ s9);have HE:Hi (zcU y=if 128<y.entries.length then 3 else if zb5 y.name 60 zpB=false then 6 else if zv4 y.sort≠0 then zv4 y.sort else if zv1 y≠0 then zv1 y else if lnB y.between=false\/lnB y.begin_=false\/lnB y.end_=false then 17 else if y.most<1\/32<y.most then 9 else zz9 y.entries):=rfl;obtain⟨aE,cE,rfl,lE⟩:=hv.form;generalize zcU y=R at *;generalize zb5 y.name 60 zpB=b1 at *;generalize zv4 y.sort=e2 at *;generalize zv1 y=e3 at *;generalize lnB y.between=b4 at *;generalize lnB y.begin_=b5 at *;generalize lnB y.end_=b6 at *;generalize zz9 y.entries=e7 at *;clear hg hv s9;unfold zfA zaK at H3 ⊢;have lg:=Hd (zaA w (.cells (zaK (.slice aE y.entries.length cE) y) 28));have mv:=Hd (aI w 28 (zaK (.slice aE y.entries.length cE) y));unfold zaK at lg mv;by_cases h1:128<y.entries.length
 .rw[ae h1]at HE;go_in;go_wp2;go_ret;exact⟨zaU HE.o.symm,lg.o⟩
 rw[aa h1]at HE;go_in;go_wp2_with fail;generalize w.alloc _=w0 at *;generalize w.heap.size=B at *;have mA:Hi (∀w',Kept w0 w'->Blk w' B 28 #[.string (bs y.name),.bool y.numeric,.string (bs y.sort),.string (bs y.cite),.string (bs y.bare),.string (bs y.between),.string (bs y.begin_),.string (bs y.end_),.int .i64 y.most,.slice aE y.entries.length cE]):=fun w' h=>mv.o.kept h;refine k_ (H1.o _) fun w1 hk=>?_;have K1:=Hd hk;clear hk;cases b1 with
 | false =>
  rw[ae rfl]at HE;go_wp2;go_ret;exact⟨zaU HE.o.symm,lg.o.trans K1.o⟩
 | true =>
 rw[aa b_]at HE;have t2:w1.cell? ⟨B,2,none⟩=some (.string (bs y.sort)):=(mA.o _ K1.o).cell 2 _ rfl;have z1:=(mA.o _ K1.o).lt;go_wp2_with fail;refine k_ (H2.o _ (HG.o.kept (lg.o.trans K1.o))) fun w2 hk=>?_;have K2:=Hd (K1.o.trans hk);clear hk t2 z1 K1;by_cases h2:e2=0
 case neg =>
  rw[ae h2]at HE;have h2':(e2==0)=false:=(by simpa using h2);go_wp2;go_ret;exact⟨zaU HE.o.symm,lg.o.trans K2.o⟩
 subst h2;rw[aa b_]at HE;have t0:w2.cell? ⟨B,0,none⟩=some (.string (bs y.name)):=(mA.o _ K2.o).cell 0 _ rfl;have t1:w2.cell? ⟨B,1,none⟩=some (.bool y.numeric):=(mA.o _ K2.o).cell 1 _ rfl;have t2:w2.cell? ⟨B,2,none⟩=some (.string (bs y.sort)):=(mA.o _ K2.o).cell 2 _ rfl;have t3:w2.cell? ⟨B,3,none⟩=some (.string (bs y.cite)):=(mA.o _ K2.o).cell 3 _ rfl;have t4:w2.cell? ⟨B,4,none⟩=some (.string (bs y.bare)):=(mA.o _ K2.o).cell 4 _ rfl;have t5:w2.cell? ⟨B,5,none⟩=some (.string (bs y.between)):=(mA.o _ K2.o).cell 5 _ rfl;have t6:w2.cell? ⟨B,6,none⟩=some (.string (bs y.begin_)):=(mA.o _ K2.o).cell 6 _ rfl;have t7:w2.cell? ⟨B,7,none⟩=some (.string (bs y.end_)):=(mA.o _ K2.o).cell 7 _ rfl;have t8:w2.cell? ⟨B,8,none⟩=some (.int .i64 y.most):=(mA.o _ K2.o).cell 8 _ rfl;have t9:w2.cell? ⟨B,9,none⟩=some (.slice aE y.entries.length cE):=(mA.o _ K2.o).cell 9 _ rfl;have z1:=(mA.o _ K2.o).lt;go_wp2_with fail;refine k_ (H3.o _ (HG.o.kept (lg.o.trans K2.o))) fun w3 hk=>?_;have K3:=Hd (K2.o.trans hk);clear hk t0 t1 t2 t3 t4 t5 t6 t7 t8 t9 z1 K2;by_cases h3:e3=0
 case neg =>
  rw[ae h3]at HE;have h3':(e3==0)=false:=(by simpa using h3);go_wp2;go_ret;exact⟨zaU HE.o.symm,lg.o.trans K3.o⟩
 subst h3;rw[aa b_]at HE;have t5:w3.cell? ⟨B,5,none⟩=some (.string (bs y.between)):=(mA.o _ K3.o).cell 5 _ rfl;have z1:=(mA.o _ K3.o).lt;go_wp2_with fail;refine k_ (H4.o _) fun w4 hk=>?_;have K4:=Hd (K3.o.trans hk);clear hk t5 z1 K3;cases b4 with
 | false =>
  rw[ae (.inl rfl)]at HE;go_wp2;go_ret;exact⟨zaU HE.o.symm,lg.o.trans K4.o⟩
 | true =>
 have t6:w4.cell? ⟨B,6,none⟩=some (.string (bs y.begin_)):=(mA.o _ K4.o).cell 6 _ rfl;have z1:=(mA.o _ K4.o).lt;go_wp2_with fail;refine k_ (H5.o _) fun w5 hk=>?_;have K5:=Hd (K4.o.trans hk);clear hk t6 z1 K4;cases b5 with
 | false =>
  rw[ae (.inr (.inl rfl))]at HE;go_wp2;go_ret;exact⟨zaU HE.o.symm,lg.o.trans K5.o⟩
 | true =>
 have t7:w5.cell? ⟨B,7,none⟩=some (.string (bs y.end_)):=(mA.o _ K5.o).cell 7 _ rfl;have z1:=(mA.o _ K5.o).lt;go_wp2_with fail;refine k_ (H6.o _) fun w6 hk=>?_;have K6:=Hd (K5.o.trans hk);clear hk t7 z1 K5;cases b6 with
 | false =>
  rw[ae (.inr (.inr rfl))]at HE;go_wp2;go_ret;exact⟨zaU HE.o.symm,lg.o.trans K6.o⟩
 | true =>
 rw[aa b_]at HE;have t8:w6.cell? ⟨B,8,none⟩=some (.int .i64 y.most):=(mA.o _ K6.o).cell 8 _ rfl;have t9:w6.cell? ⟨B,9,none⟩=some (.slice aE y.entries.length cE):=(mA.o _ K6.o).cell 9 _ rfl;have z1:=(mA.o _ K6.o).lt;by_cases h8:y.most<1
 .rw[ae (.inl h8)]at HE;go_wp2;go_ret;exact⟨zaU HE.o.symm,lg.o.trans K6.o⟩
 by_cases h9:32<y.most
 .rw[ae (.inr h9)]at HE;go_wp2;go_ret;exact⟨zaU HE.o.symm,lg.o.trans K6.o⟩
 rw[aa (fun q=>q.elim h8 h9)]at HE;go_wp2_with fail;refine k_ (H7.o _ (HG.o.kept (lg.o.trans K6.o)) (HV.o.kept (lg.o.trans K6.o))) fun w7 hk=>?_;have K7:=Hd (K6.o.trans hk);clear hk;go_wp2;go_ret;exact⟨zaU HE.o.symm,lg.o.trans K7.o⟩
def fP:=@MapK_kept
end Go.Proofs.YtnldgmhdjancbaaGreatDoor
