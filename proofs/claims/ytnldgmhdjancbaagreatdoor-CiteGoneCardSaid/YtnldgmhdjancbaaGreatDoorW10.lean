/- Parts. -/
import Derived.Test.YtnldgmhdjancbaaGreatDoorW09
set_option linter.all false
set_option maxRecDepth 100000
set_option maxHeartbeats 6400000
namespace Go.Proofs.YtnldgmhdjancbaaGreatDoor
open Go.RowKit Go.Proofs.Tryz
def zDF(b:UInt8):Bool:=decide (97<=b.toNat/\b.toNat<=122) || decide (65<=b.toNat/\b.toNat<=90)
def nmB(b:UInt8):Bool:=zDF b || zyE b || b==45 || b==95 || b==46 || b==58
def za8(l:Bs):Bool:=decide (l.length<=60)&&(match l with|[]=>false|b::_=>zDF b)&&l.all nmB
def ztS(c:Int):Prop:=97<=c/\c<=122\/65<=c/\c<=90
def zi1(c:Int):Prop:=48<=c/\c<=57\/c=45\/c=95\/c=46\/c=58
def zJb(c:Int):Prop:=c<45\/c=47\/59<=c/\c<=64\/91<=c/\c<=94\/c=96\/122<c
def cls(c:Int):ztS c\/zi1 c\/zJb c:=by unfold ztS zi1 zJb;omega
def zwD(l:Bs)(i:Nat)(h:i<l.length):zDF l[i]=true↔ztS (at8 l i):=by
 rw[zbP l i h];unfold ztS;simp [zDF];omega
def zEn(l:Bs)(i:Nat)(h:i<l.length):nmB l[i]=true↔ztS (at8 l i)\/zi1 (at8 l i):=by
 have e:=zwD l i h;have d:=zA8 l i h;have q:∀n:Nat,n<256->((l[i]==UInt8.ofNat n)=true↔at8 l i=n):=by
  intro n hn;constructor
  .intro q;rw[zbP l i h];exact(zj8 _ n hn).2 (by simpa using q)
  .intro q;rw[zbP l i h]at q;simpa using(zj8 _ n hn).1 q
 have q1:=q 45 a_;have q2:=q 95 a_;have q3:=q 46 a_;have q4:=q 58 a_;unfold nmB;simp only[dL,e,d];unfold zi1;constructor
 .rintro(((((h|h)|h)|h)|h)|h)
  .exact .inl h
  .exact .inr (.inl h)
  .exact .inr (.inr (.inl (by simpa using q1.1 h)))
  .exact .inr (.inr (.inr (.inl (by simpa using q2.1 h))))
  .exact .inr (.inr (.inr (.inr (.inl (by simpa using q3.1 h)))))
  .exact .inr (.inr (.inr (.inr (.inr (by simpa using q4.1 h)))))
 .rintro(h|h|h|h|h|h)
  .exact .inl (.inl (.inl (.inl (.inl h))))
  .exact .inl (.inl (.inl (.inl (.inr h))))
  .exact .inl (.inl (.inl (.inr (q1.2 (by simpa using h)))))
  .exact .inl (.inl (.inr (q2.2 (by simpa using h))))
  .exact .inl (.inr (q3.2 (by simpa using h)))
  .exact .inr (q4.2 (by simpa using h))
def NameSt(l:Bs)(k:Nat):Prop:=(l.take k).all nmB=true/\(0<k->∀h:0<l.length,zDF l[0]=true)
def NameSt.start(l:Bs):NameSt l 0:=⟨rfl,fun h=>by omega⟩
def NameSt.letter{l:Bs}{k:Nat}(h:NameSt l k)(hk:k<l.length)(hc:ztS (at8 l k)):NameSt l (k+1):=by
 refine⟨?_,fun _ h0=>?_⟩
 .rw[zlW l k hk,fY,h.1];simp [(zEn l k hk).2 (.inl hc)]
 .by_cases q:k=0
  .subst q;exact(zwD l 0 hk).2 hc
  .exact h.2 a_ h0
def NameSt.other{l:Bs}{k:Nat}(h:NameSt l k)(hk:k<l.length)(h0:0<k)(hc:zi1 (at8 l k)):NameSt l (k+1):=by
 refine⟨?_,fun _ h1=>h.2 h0 h1⟩;rw[zlW l k hk,fY,h.1];simp [(zEn l k hk).2 (.inr hc)]
def zfI(l:Bs)(h:0<l.length):za8 l=(decide (l.length<=60)&&zDF l[0]&&l.all nmB):=by
 cases l with
 | nil=>simp at h
 | cons b r=>rfl
def NameSt.bad{l:Bs}{k:Nat}(hk:k<l.length)(hc:¬ (ztS (at8 l k)\/zi1 (at8 l k))):za8 l=false:=by
 rw[zfI l a_];have:l.all nmB=false:=by
  rw[io];exact⟨l[k],dm hk,fun q=>hc ((zEn l k hk).1 q)⟩
 rw[this];simp
def NameSt.first{l:Bs}(hk:0<l.length)(hc:¬ ztS (at8 l 0)):za8 l=false:=by
 rw[zfI l hk];have:zDF l[0]=false:=by
  cases q:zDF l[0]
  .rfl
  .exact absurd ((zwD l 0 hk).1 q) hc
 rw[this];simp
def NameSt.done{l:Bs}(h:NameSt l l.length)(De:l.length<=60):za8 l = !l.isEmpty:=by
 cases l with
 | nil=>rfl
 | cons b r =>
  rw[zfI _ b_];have h1:=h.1;rw[bx (aw _)]at h1;rw[h1,h.2 b_ b_];simp at De;simp;omega
def zG9(l:Bs)(i:Nat)(hi:i<l.length)(h:ztS (at8 l i)\/zi1 (at8 l i)):dec (bs l) i=(at8 l i,1):=zpF l i (by unfold ztS zi1 at h;omega)
def zHa(l:Bs)(i:Nat)(h:¬ (ztS (at8 l i)\/zi1 (at8 l i))):zJb (dec (bs l) i).1:=by
 by_cases q:at8 l i<128
 .rw[zpF l i q];rcases cls (at8 l i)with h1|h1|h1
  .exact absurd (.inl h1) h
  .exact absurd (.inr h1) h
  .exact h1
 .have:=zGi l i a_;unfold zJb;omega
def zjR(l:Bs)(w:World)(hl:l.length<=1100000):Calls prog 43 #[.string (bs l)] w fun e w'=>e=.returned (.bool (za8 l))/\Kept w w':=by
 by_cases De:l.length<=60
 .go_in;go_wp2_with fail;go_loopw [2] (fun r wr=>∃pos:Nat,pos<=l.length/\r=.bool false/\wr.heap[w.heap.size]? = some (.stringIter (bs l) pos)/\Kept w wr/\Hi (NameSt l pos)) (fun _ wr=>l.length - wr.iterPos w.heap.size)
  .exact⟨0,ai _,rfl,by have:=eQ w (bs l) 0;simpa using this,zaA _ _,NameSt.start l⟩
  case round =>
   obtain⟨pos,hp,rfl,mz,hk,HA⟩:=hrel;by_cases kV:pos<l.length
   .have nx:=fun ty=>zc2 (P:=prog) wr w.heap.size (bs l) pos ty mz kV;by_cases hc:ztS (at8 l pos)\/zi1 (at8 l pos)
    .rw[zG9 l pos kV hc]at nx;simp only[show((1:Int).toNat)=1 from rfl]at nx;obtain⟨q1,q2,q3,q4⟩:=ziU w wr w.heap.size l pos 1 mz hk (aw _);have xH:=Hd q1;have qG:=Hd q2;have zz:=Hd q3;have Fi:=Hd q4;generalize wr.iterAt w.heap.size (bs l) (pos+1)=wq at *;clear q1 q2 q3 q4 mz hk;by_cases nf:ztS (at8 l pos)
     .have HN:=Hd (HA.o.letter kV nf);generalize at8 l pos=c at *;clear HA hc;unfold ztS at nf;rcases nf with⟨g1,g2⟩|⟨g1,g2⟩
      all_goals
       go_wp2;go_roundw
       .exact⟨pos+1,a_,rfl,xH.o,qG.o,HN.o⟩
       .rw[zz.o,Fi.o];omega
     .have hcr:zi1 (at8 l pos):=(by rcases hc with h|h;exact absurd h nf;exact h);by_cases hz:pos=0
      .subst hz;have HZ:=Hd (NameSt.first kV nf);generalize at8 l 0=c at *;clear HA hc nf;unfold zi1 at hcr;rcases hcr with⟨g1,g2⟩|rfl|rfl|rfl|rfl
       all_goals
        go_wp2;go_ret;exact⟨zaY HZ.o.symm,qG.o⟩
      .have hz':((pos:Int)==0)=false:=(by rw[ab];omega);have HN:=Hd (HA.o.other kV a_ hcr);generalize at8 l pos=c at *;clear HA hc nf;unfold zi1 at hcr;rcases hcr with⟨g1,g2⟩|rfl|rfl|rfl|rfl
       all_goals
        go_wp2;go_roundw
        .exact⟨pos+1,a_,rfl,xH.o,qG.o,HN.o⟩
        .rw[zz.o,Fi.o];omega
    .have HZ:=Hd (NameSt.bad kV hc);have hbad:=zHa l pos hc;obtain⟨q1,q2,q3,q4⟩:=ziU w wr w.heap.size l pos (dec (bs l) pos).2.toNat mz hk (aw _);have qG:=Hd q2;generalize wr.iterAt w.heap.size (bs l) (pos+(dec (bs l) pos).2.toNat)=wq at *;generalize (dec (bs l) pos).1=c at *;clear hc HA q1 q2 q3 q4 mz hk;unfold zJb at hbad;have hz:((pos:Int)==0)=true\/((pos:Int)==0)=false:=(by cases ((pos:Int)==0)<;>simp);rcases hz with hz|hz<;>rcases hbad with g|rfl|⟨g1,g2⟩|⟨g1,g2⟩|rfl|g
     all_goals
      go_wp2;go_ret;exact⟨zaY HZ.o.symm,qG.o⟩
   .have nx:=fun ty=>zbM (P:=prog) wr w.heap.size (bs l) pos ty mz (by simpa using kV);obtain rfl:pos=l.length:=a_;have HZ:=Hd (HA.o.done De);have HR:=Hd hk;clear hk HA mz;by_cases he:l=[]
    .subst he;go_wp2;go_ret;exact⟨zaY (by rw[HZ.o];rfl),HR.o⟩
    .have xG:l.isEmpty=false:=(by simpa using he);go_wp2;go_ret;exact⟨zaY (by rw[HZ.o,xG];first|rfl|simp [xG]),HR.o⟩
 .have HZ:Hi (za8 l=false):=(by show _=_;unfold za8;rw[bH De];rfl);go_in;go_wp2;go_ret;exact⟨zaY HZ.o.symm,af _⟩
def zeY(ps:List P4):List Value:=ps.flatMap fun q=>[.string (bs q.1),.string (bs q.2.1),.string (bs q.2.2.1),.string (bs q.2.2.2)]
def zEo(ps:List P4)(j:Nat)(q:P4)(h:ps[j]? = some q):(zeY ps)[j * 4]? = some (.string (bs q.1))/\(zeY ps)[j * 4+1]? = some (.string (bs q.2.1))/\(zeY ps)[j * 4+2]? = some (.string (bs q.2.2.1))/\(zeY ps)[j * 4+3]? = some (.string (bs q.2.2.2)):=by
 induction ps generalizing j with
 | nil=>cases h
 | cons p ps ih =>
  have e:zeY (p::ps)=[.string (bs p.1),.string (bs p.2.1),.string (bs p.2.2.1),.string (bs p.2.2.2)]++zeY ps:=(by simp [zeY]);rw[e];cases j with
  | zero=>cases h;exact⟨rfl,rfl,rfl,rfl⟩
  | succ j =>
   have:=ih j (by simpa using h);rw[bp e_,bp e_,bp e_,bp e_];simp only[az,cj];rw[show(j+1) * 4 - (0+1+1+1+1)=j * 4 from by omega,show(j+1) * 4+1 - (0+1+1+1+1)=j * 4+1 from by omega,show(j+1) * 4+2 - (0+1+1+1+1)=j * 4+2 from by omega,show(j+1) * 4+3 - (0+1+1+1+1)=j * 4+3 from by omega];exact this
def Perss.own{w:World}{base:Nat}{e:TypeId}{v:Value}{ps:List P4}(h:w.ownsRow base e 4 v ps.length (zeY ps)):Perss w v ps:=by
 obtain⟨a,c,hv,hc,_,h3⟩:=zaZ h;refine⟨a,c,hv,hc,fun q=>?_⟩;obtain⟨g,ha,_,hg,kR⟩:=h3 q;refine⟨g,0,ha,hg,fun j x hx=>?_⟩;obtain⟨c0,c1,c2,c3⟩:=zEo ps j x hx;simp only[bP];exact⟨kR _ _ c0,kR _ _ c1,kR _ _ c2,kR _ _ c3⟩
def Tryz.infoPers:(prog.info? 52).map (fun i=>(i.zero,i.size,i.bytes))=some (some (.agg #[.string ⟨#[]⟩,.string ⟨#[]⟩,.string ⟨#[]⟩,.string ⟨#[]⟩]),4,64):=g_
structure SrcT where
 key:Bs
 type:Bs
 author:List P4
 editor:List P4
 fields:List Pr
def zHb:Bs:=[97,117,116,104,111,114]
def zHc:Bs:=[101,100,105,116,111,114]
def zkV:SrcT:=⟨[],[],[],[],[]⟩
def zr0:Bs:=[116,105,116,108,101]
def Srcs(w:World)(v:Value)(ss:List SrcT):Prop :=
 ∃a c,v=.slice a ss.length c/\ss.length<=c/\(0<ss.length->∃g o,a=some ⟨g,o,none⟩/\g<w.heap.size/\∀j s,ss[j]? = some s->∃vA vE vF,
  w.cell? ⟨g,o+j * 5,none⟩=some (.string (bs s.key))/\w.cell? ⟨g,o+j * 5+1,none⟩=some (.string (bs s.type))/\w.cell? ⟨g,o+j * 5+2,none⟩=some vA/\w.cell? ⟨g,o+j * 5+3,none⟩=some vE/\w.cell? ⟨g,o+j * 5+4,none⟩=some vF /\
  Perss w vA s.author/\Perss w vE s.editor/\Prs w vF s.fields)
def zeM:List P4->Int
 | []=>0
 | p::ps=>if zhZ p.1 p.2.1 p.2.2.1 p.2.2.2≠0 then zhZ p.1 p.2.1 p.2.2.1 p.2.2.2 else zeM ps
def zmE(ds:List Pr)(f:Pr):Int :=
 if(za8 f.1=false\/f.1=[97,117,116,104,111,114])\/f.1=[101,100,105,116,111,114]then 6
 else if((f.2=[]\/za9 (bs f.2)=false)\/f.2.contains 10=true)\/zxQ f.2≠f.2 then 17
 else if znE ds f.1=true then 7 else 0
def ztT:List Pr->List Pr->Int
 | _,[]=>0
 | ds,f::fs=>if zmE ds f≠0 then zmE ds f else ztT (ds++[f]) fs
def zBk(s:SrcT):Int :=
 if(32<s.author.length\/32<s.editor.length)\/24<s.fields.length then 3
 else if zeM s.author≠0 then zeM s.author else if zeM s.editor≠0 then zeM s.editor
 else if ztT [] s.fields≠0 then ztT [] s.fields else if znE s.fields zr0=true then 0 else 8
def zwE(ps:List P4)(k:Nat)(p:P4)(h:ps[k]? = some p):zeM (ps.drop k)=if zhZ p.1 p.2.1 p.2.2.1 p.2.2.2≠0 then zhZ p.1 p.2.1 p.2.2.1 p.2.2.2 else zeM (ps.drop (k+1)):=by
 obtain⟨hk,rfl⟩:=ak.1 h;rw[aJ hk];rfl
def zHd(ps:List Pr)(k:Nat)(p:Pr)(h:ps[k]? = some p):ztT (ps.take k) (ps.drop k)=if zmE (ps.take k) p≠0 then zmE (ps.take k) p else ztT (ps.take (k+1)) (ps.drop (k+1)):=by
 obtain⟨hk,rfl⟩:=ak.1 h;rw[aJ hk,bf hk];rfl
def Prs.front{w:World}{a:Option Addr}{n c:Nat}{ps:List Pr}(h:Prs w (.slice a n c) ps)(k:Nat)(hk:k<=ps.length)(c':Nat)(hc:k<=c'):Prs w (.slice a k c') (ps.take k):=by
 obtain⟨a',c2,hv,_,h3⟩:=h;obtain⟨rfl,_,_⟩:=bL hv;refine⟨a,c',by rw[bw,kx hk],by rw[bw];omega,fun q=>?_⟩;rw[bw]at q;obtain⟨g,o,ha,hg,hc⟩:=h3 a_;refine⟨g,o,ha,hg,fun j x hx=>hc j x ?_⟩;rw[fq]at hx
 split at hx
 .exact hx
 .cases hx
def SmallP(ps:List P4):Prop:=∀p∈ps,p.1.length+p.2.1.length+p.2.2.1.length+p.2.2.2.length<=4400000
def SmallF(ps:List Pr):Prop:=∀p∈ps,p.1.length<=1100000/\p.2.length<=1100000
def zBl(s:SrcT)(vA vE vF:Value)(w:World)(hg:Gnd w)(hA:Perss w vA s.author)(hE:Perss w vE s.editor)(hF:Prs w vF s.fields)(h1:SmallP s.author)(h2:SmallP s.editor)(h3:SmallF s.fields)(hl1:s.author.length<=1100000)(hl2:s.editor.length<=1100000)(hl3:s.fields.length<=1100000):Calls prog 44 #[znF s.key s.type vA vE vF] w fun e w'=>e=.returned (.int .i64 (zBk s))/\Kept w w':=by
 obtain⟨key,type,au,ed,fs⟩:=s;simp only at hA hE hF h1 h2 h3 hl1 hl2 hl3 ⊢;have HR:Hi (zBk ⟨key,type,au,ed,fs⟩=if(32<au.length\/32<ed.length)\/24<fs.length then 3
 else if zeM au≠0 then zeM au else if zeM ed≠0 then zeM ed
 else if ztT [] fs≠0 then ztT [] fs else if znE fs zr0=true then 0 else 8):=rfl
 obtain⟨R,mR⟩:=gX (zBk ⟨key,type,au,ed,fs⟩);rw[mR.o]at HR ⊢;clear mR;have HA:=Hd hA;have HE:=Hd hE;have HF:=Hd hF;obtain⟨a1,c1,rfl,ol,MF⟩:=hA;clear MF;obtain⟨a2,c2,rfl,hc2,MH⟩:=hE;clear MH;obtain⟨a3,c3,rfl,hc3,hh3⟩:=hF;clear hh3;by_cases hlim:(32<au.length\/32<ed.length)\/24<fs.length
 .rw[ae hlim]at HR;by_cases q1:32<au.length
  .go_enter kq,jW;go_wp2;go_ret;exact⟨by rw[HR.o];rfl,zaA _ _⟩
  .by_cases q2:32<ed.length
   .go_enter kq,jW;go_wp2;go_ret;exact⟨by rw[HR.o];rfl,zaA _ _⟩
   .have q3:24<fs.length:=a_;go_enter kq,jW;go_wp2;go_ret;exact⟨by rw[HR.o];rfl,zaA _ _⟩
 .rw[aa hlim]at HR;have q1:au.length<=32:=a_;have q2:ed.length<=32:=a_;have q3:fs.length<=24:=a_;have nl:Hi (∀w',Kept (w.alloc (.cells #[.string (bs key),.string (bs type),.slice a1 au.length c1,.slice a2 ed.length c2,.slice a3 fs.length c3] 50)) w'->w'.cell? ⟨w.heap.size,3,none⟩=some (.slice a2 ed.length c2)):=fun w' hk=>((aI w 50 #[.string (bs key),.string (bs type),.slice a1 au.length c1,.slice a2 ed.length c2,.slice a3 fs.length c3]).kept hk).cell 3 _ rfl;have oO:Hi (∀w',Kept (w.alloc (.cells #[.string (bs key),.string (bs type),.slice a1 au.length c1,.slice a2 ed.length c2,.slice a3 fs.length c3] 50)) w'->w'.cell? ⟨w.heap.size,4,none⟩=some (.slice a3 fs.length c3)):=fun w' hk=>((aI w 50 #[.string (bs key),.string (bs type),.slice a1 au.length c1,.slice a2 ed.length c2,.slice a3 fs.length c3]).kept hk).cell 4 _ rfl;have lg:=Hd (zaA w (.cells #[.string (bs key),.string (bs type),.slice a1 au.length c1,.slice a2 ed.length c2,.slice a3 fs.length c3] 50));go_enter kq,jW;go_wp2_with fail;generalize w.alloc (.cells #[.string (bs key),.string (bs type),.slice a1 au.length c1,.slice a2 ed.length c2,.slice a3 fs.length c3] 50)=w0 at *;go_loopw [33] (fun i wr=>∃k:Nat,k<=au.length/\i=.int .i64 k/\Hi (zeM au=zeM (au.drop k))/\Hi (Kept w0 wr)) (fun i _=>au.length - (intOf i).toNat)
  .exact⟨0,ai _,rfl,rfl,af _⟩
  case round =>
   obtain⟨k,hk,rfl,HP,kO⟩:=hrel;by_cases kV:k<au.length
   .obtain⟨p,hx⟩:∃x,au[k]? = some x:=⟨_,ac kV⟩;have pJ:=Hd (h1 p (am hx));have lG:=Hd (zwE au k p hx);obtain⟨a',c',hv',hc',h3'⟩:=HA.o.kept (lg.o.trans kO.o);obtain⟨rfl,nj,rfl⟩:=bL hv';clear nj hc';obtain⟨g,o,rfl,hg',mU⟩:=h3' a_;obtain⟨d0,d1,d2,d3⟩:=mU k p hx;obtain⟨pf,pg,pp,ps⟩:=p;simp only at d0 d1 d2 d3 pJ lG;have HT:=Hd (fun w hg=>zv7 pf pg pp ps w hg (by have:=pJ.o;omega));have lu:=Hd (hg.kept (lg.o.trans kO.o));clear mU h3' hv' hx;generalize zhZ pf pg pp ps=E at *;generalize zpE pf pg pp ps=X at *;go_wp2_with fail;refine k_ (HT.o _ (lu.o.kept (zaA _ _))) fun w3 li=>?_;have lq:=Hd ((kO.o.trans (zaA _ _)).trans li);clear li d0 d1 d2 d3 hg';by_cases hE:E=0
    .subst hE;rw[aa b_]at lG;go_wp2;go_roundw
     .exact⟨k+1,a_,by go_num,Hd (HP.o.trans lG.o),lq⟩
     .simp [intOf];omega
    .rw[ae hE]at lG;rw[HP.o,lG.o,ae hE]at HR;go_wp2;go_ret;exact⟨by rw[HR.o];rfl,lg.o.trans lq.o⟩
   .obtain rfl:k=au.length:=a_;rw[du]at HP;have hz:zeM au=0:=HP.o;rw[aa (by rw[hz];simp)]at HR;have e3:=nl.o _ kO.o;have e4:=oO.o _ kO.o;clear HP hz;go_wp2_with fail;clear e3 e4;generalize wr=w5 at *;go_loopw [49] (fun i wr=>∃k:Nat,k<=ed.length/\i=.int .i64 k/\Hi (zeM ed=zeM (ed.drop k))/\Hi (Kept w0 wr)) (fun i _=>ed.length - (intOf i).toNat)
    .exact⟨0,ai _,rfl,rfl,kO.o⟩
    case round =>
     obtain⟨k,hk,rfl,HP,kO⟩:=hrel;by_cases kV:k<ed.length
     .obtain⟨p,hx⟩:∃x,ed[k]? = some x:=⟨_,ac kV⟩;have pJ:=Hd (h2 p (am hx));have lG:=Hd (zwE ed k p hx);obtain⟨a',c',hv',hc',h3'⟩:=HE.o.kept (lg.o.trans kO.o);obtain⟨rfl,nj,rfl⟩:=bL hv';clear nj hc';obtain⟨g,o,rfl,hg',mU⟩:=h3' a_;obtain⟨d0,d1,d2,d3⟩:=mU k p hx;obtain⟨pf,pg,pp,ps⟩:=p;simp only at d0 d1 d2 d3 pJ lG;have HT:=Hd (fun w hg=>zv7 pf pg pp ps w hg (by have:=pJ.o;omega));have lu:=Hd (hg.kept (lg.o.trans kO.o));clear mU h3' hv' hx;generalize zhZ pf pg pp ps=E at *;generalize zpE pf pg pp ps=X at *;go_wp2_with fail;refine k_ (HT.o _ (lu.o.kept (zaA _ _))) fun w3 li=>?_;have lq:=Hd ((kO.o.trans (zaA _ _)).trans li);clear li d0 d1 d2 d3 hg';by_cases hE:E=0
      .subst hE;rw[aa b_]at lG;go_wp2;go_roundw
       .exact⟨k+1,a_,by go_num,Hd (HP.o.trans lG.o),lq⟩
       .simp [intOf];omega
      .rw[ae hE]at lG;rw[HP.o,lG.o,ae hE]at HR;go_wp2;go_ret;exact⟨by rw[HR.o];rfl,lg.o.trans lq.o⟩
     .obtain rfl:k=ed.length:=a_;rw[du]at HP;have hz:zeM ed=0:=HP.o;rw[aa (by rw[hz];simp)]at HR;have e4:=oO.o _ kO.o;clear HP hz;go_wp2_with fail;clear e4;generalize wr=w6 at *;go_loopw [65] (fun i wr=>∃k:Nat,k<=fs.length/\i=.int .i64 k/\Hi (ztT [] fs=ztT (fs.take k) (fs.drop k))/\Hi (Kept w0 wr)) (fun i _=>fs.length - (intOf i).toNat)
      .exact⟨0,ai _,rfl,rfl,kO.o⟩
      case round =>
       clear kO;obtain⟨k,hk,rfl,HP,kO⟩:=hrel;by_cases kV:k<fs.length
       .obtain⟨p,hx⟩:∃x,fs[k]? = some x:=⟨_,ac kV⟩;obtain⟨Df,Dg⟩:=h3 p (am hx);have lG:=Hd (zHd fs k p hx);have uW:=Hd (HF.o.kept (lg.o.trans kO.o));obtain⟨a',c',hv',hc',h3'⟩:=uW.o;obtain⟨rfl,nj,rfl⟩:=bL hv';clear nj hc';obtain⟨g,o,rfl,hg',mU⟩:=h3' a_;obtain⟨d0,d1⟩:=mU k p hx;obtain⟨x,y⟩:=p;simp only at d0 d1 Df Dg lG;have oP:Hi (∀c:Int,c≠0->zmE (fs.take k) (x,y)=c->R=c):=by
         intro c hc he;have hz:ztT [] fs=c:=(by rw[HP.o,lG.o,he,ae hc]);rw[HR.o,hz,ae hc]
        have om:Hi (zmE (fs.take k) (x,y)=0->ztT [] fs=ztT (fs.take (k+1)) (fs.drop (k+1))):=by
         intro he;rw[HP.o,lG.o,he,aa b_]
        have FS:Hi (∀w',Kept wr w'->Calls prog 84 #[.slice (some ⟨g,o,none⟩) k c3,.string (bs x)] w' fun e w''=>e=.returned (.bool (znE (fs.take k) x))/\Kept w' w''):=fun w' hk'=>zkA _ _ _ _ ((uW.o.kept hk').front k hk c3 a_) (by rw[bw];omega);have HN:=Hd (fun w=>zjR x w Df);have HV:=Hd (fun w=>zlX (bs y) w e_);have HC:Hi (∀w,Calls prog 81 #[.string (bs y),.string (bs [10])] w fun e w'=>e=.returned (.bool (y.contains 10))/\w'=w):=by
         intro w;refine(fQ (bs y) 10 w).mono ?_;rintro e w' ⟨rfl,rfl⟩;refine⟨?_,rfl⟩;rw[zfW,<- za6]
        have HT:=Hd (fun w=>zDK y w Dg);have sX:Hi (∀w',Kept (wr.alloc (.cells #[.string (bs x),.string (bs y)] 46)) w'->w'.cell? ⟨wr.heap.size,0,none⟩=some (.string (bs x))):=fun w' hk=>((aI wr 46 #[.string (bs x),.string (bs y)]).kept hk).cell 0 _ rfl;have FT:Hi (∀w',Kept (wr.alloc (.cells #[.string (bs x),.string (bs y)] 46)) w'->w'.cell? ⟨wr.heap.size,1,none⟩=some (.string (bs y))):=fun w' hk=>((aI wr 46 #[.string (bs x),.string (bs y)]).kept hk).cell 1 _ rfl;clear mU h3' hv' hx lG HP;have nW:Hi (zmE (fs.take k) (x,y)=if(za8 x=false\/x=[97,117,116,104,111,114])\/x=[101,100,105,116,111,114]then 6 else if((y=[]\/za9 (bs y)=false)\/y.contains 10=true)\/zxQ y≠y then 17 else if znE (fs.take k) x=true then 7 else 0):=rfl;generalize zmE (fs.take k) (x,y)=E at *;generalize znE (fs.take k) x=hb at *;generalize za9 (bs y)=vb at *;generalize zxQ y=ty at *;generalize y.contains 10=cb at *;go_wp2_with fail;refine k_ (HN.o _) fun w7 mS=>?_;have e0:=sX.o _ mS;have e1:=FT.o _ mS;have G7:=Hd mS;have mE:=Hd ((zaA wr _).trans mS);have pk:=Hd (kO.o.trans mE.o);have e4:=oO.o _ pk.o;clear mS d0 d1 hg';generalize za8 x=nb at *;cases nb
        .rw[ae (.inl (.inl rfl))]at nW;have mR:=Hd (oP.o 6 c_ nW.o);go_wp2;go_ret;exact⟨by rw[mR.o];rfl,lg.o.trans pk.o⟩
        by_cases hxa:x=[97,117,116,104,111,114]
        .rw[ae (.inl (.inr hxa))]at nW;have mR:=Hd (oP.o 6 c_ nW.o);subst hxa;go_wp2;go_ret;exact⟨by rw[mR.o];rfl,lg.o.trans pk.o⟩
        by_cases hxe:x=[101,100,105,116,111,114]
        .rw[ae (.inr hxe)]at nW;have mR:=Hd (oP.o 6 c_ nW.o);subst hxe;go_wp2;go_ret;exact⟨by rw[mR.o];rfl,lg.o.trans pk.o⟩
        rw[aa (by simp [hxa,hxe])]at nW;have MI:(x==[97,117,116,104,111,114])=false:=(by simpa using hxa);have MJ:(x==[101,100,105,116,111,114])=false:=(by simpa using hxe);by_cases hy:y=[]
        .rw[ae (.inl (.inl (.inl hy)))]at nW;have mR:=Hd (oP.o 17 c_ nW.o);subst hy;go_wp2;go_ret;exact⟨by rw[mR.o];rfl,lg.o.trans pk.o⟩
        have hy':(y==[])=false:=(by simpa using hy);go_wp2_with fail;refine(HV.o _).mono ?_;rintro e w8 ⟨rfl,n8,rfl⟩;have pm:=Hd (pk.o.trans (zaB w7 n8));have yo:=Hd (mE.o.trans (zaB w7 n8));have f0:=sX.o _ (G7.o.trans (zaB w7 n8));have f4:=oO.o _ pm.o;clear e0 e1 e4;generalize w7.drewN n8=w8 at *;cases vb
        .rw[ae (.inl (.inl (.inr rfl)))]at nW;have mR:=Hd (oP.o 17 c_ nW.o);go_wp2;go_ret;exact⟨by rw[mR.o];rfl,lg.o.trans pm.o⟩
        go_wp2_with fail;refine(HC.o _).mono ?_;rintro e w9 ⟨rfl,rfl⟩;cases cb
        case true =>
         rw[ae (.inl (.inr rfl))]at nW;have mR:=Hd (oP.o 17 c_ nW.o);go_wp2;go_ret;exact⟨by rw[mR.o];rfl,lg.o.trans pm.o⟩
        go_wp2_with fail;refine(HT.o _).mono ?_;rintro e tZ ⟨rfl,rfl⟩;by_cases hty:ty=y
        case neg =>
         rw[ae (.inr hty)]at nW;have mR:=Hd (oP.o 17 c_ nW.o);have hty':(ty==y)=false:=(by simpa using hty);go_wp2;go_ret;exact⟨by rw[mR.o];rfl,lg.o.trans pm.o⟩
        subst hty;rw[aa (by simp [hy])]at nW;go_wp2_with fail;have hkc:k<=c3:=a_
        go_region_with (go_at_call 84;refine k_ (FS.o _ (yo.o.trans (zaB _ 1))) fun rG qH=>?_;have vp:=Hd ((pm.o.trans (zaB _ 1)).trans qH);clear qH)
        all_goals
         cases hb
         .rw[aa b_]at nW;have qc:=Hd (om.o nW.o);go_wp2;go_roundw
          .exact⟨k+1,a_,by go_num,qc,vp⟩
          .simp [intOf];omega
         .rw[ae rfl]at nW;have mR:=Hd (oP.o 7 c_ nW.o);go_wp2;go_ret;exact⟨by rw[mR.o];rfl,lg.o.trans vp.o⟩
       .obtain rfl:k=fs.length:=a_;rw[du]at HP;have hz:ztT [] fs=0:=HP.o;rw[aa (by rw[hz];simp)]at HR;have e4:=oO.o _ kO.o;have FS:=Hd (zkA _ fs zr0 wr (HF.o.kept (lg.o.trans kO.o)) hl3);unfold zr0 at FS HR;clear HP hz;generalize znE fs [116,105,116,108,101]=hb at *;go_wp2_with fail;refine k_ (FS.o) fun rG qH=>?_;have vp:=Hd (kO.o.trans qH);clear qH;cases hb
        .rw[aa b_]at HR;go_wp2;go_ret;exact⟨by rw[HR.o];rfl,lg.o.trans vp.o⟩
        .rw[ae rfl]at HR;go_wp2;go_ret;exact⟨by rw[HR.o];rfl,lg.o.trans vp.o⟩
def zGj:List Bs->List SrcT->Int
 | _,[]=>0
 | ks,s::ss=>if za8 s.type=false\/za8 s.key=false then 6 else if ks.contains s.key=true then 7 else if zBk s≠0 then zBk s else zGj (ks++[s.key]) ss
def zdA(l:List SrcT):Int:=if 256<l.length then 3 else zGj [] l
def zHe(l:List SrcT)(ks:List Bs)(k:Nat)(s:SrcT)(h:l[k]? = some s):zGj ks (l.drop k)=if za8 s.type=false\/za8 s.key=false then 6 else if ks.contains s.key=true then 7 else if zBk s≠0 then zBk s else zGj (ks++[s.key]) (l.drop (k+1)):=by
 obtain⟨hk,rfl⟩:=ak.1 h;rw[aJ hk];rfl
def Srcs.kept{w w':World}{v:Value}{ss:List SrcT}(h:Srcs w v ss)(k:Kept w w'):Srcs w' v ss:=by
 obtain⟨a,c,hv,hc,h3⟩:=h;refine⟨a,c,hv,hc,fun q=>?_⟩;obtain⟨g,o,ha,hg,kR⟩:=h3 q;refine⟨g,o,ha,aU hg k.size,fun j x hx=>?_⟩;obtain⟨vA,vE,vF,c0,c1,c2,c3,c4,h1,h2,h3⟩:=kR j x hx;exact⟨vA,vE,vF,(k.cell (p:=⟨g,_,none⟩) hg).trans c0,(k.cell (p:=⟨g,_,none⟩) hg).trans c1,(k.cell (p:=⟨g,_,none⟩) hg).trans c2,(k.cell (p:=⟨g,_,none⟩) hg).trans c3,(k.cell (p:=⟨g,_,none⟩) hg).trans c4,h1.kept k,h2.kept k,h3.kept k⟩
def SmallS(s:SrcT):Prop:=SmallP s.author/\SmallP s.editor/\SmallF s.fields/\s.author.length<=1100000/\s.editor.length<=1100000/\s.fields.length<=1100000/\s.key.length<=1100000/\s.type.length<=1100000
def zBm(v:Value)(ss:List SrcT)(w:World)(hg:Gnd w)(hv:Srcs w v ss)(hs:∀s∈ss,SmallS s)(hl:ss.length<=1100000):Calls prog 22 #[v] w fun e w'=>e=.returned (.int .i64 (zdA ss))/\Kept w w':=by
 have HV:=Hd hv;have HR:Hi (zdA ss=if 256<ss.length then 3 else zGj [] ss):=rfl;obtain⟨R,mR⟩:=gX (zdA ss);rw[mR.o]at HR ⊢;clear mR;obtain⟨a,c,rfl,hc,hh⟩:=hv;clear hh;have mk:=fun w=>ep (P:=prog) 81 w;by_cases hlim:256<ss.length
 .rw[ae hlim]at HR;go_in;go_wp2;go_ret;exact⟨by rw[HR.o];rfl,af _⟩
 .rw[aa hlim]at HR;have J6:ss.length<=256:=a_;go_in;go_wp2_with fail;go_loopw [13] (fun i wr=>∃(k:Nat) (ks:List Bs),k<=ss.length/\i=.int .i64 k/\Hi (R=zGj ks (ss.drop k))/\Hi (MapK wr w.heap.size ks)/\Hi (Kept w wr)) (fun i _=>ss.length - (intOf i).toNat)
  .exact⟨0,[],ai _,rfl,HR,el w _,zaA _ _⟩
  case round =>
   obtain⟨k,ks,hk,rfl,HP,HM,kO⟩:=hrel;by_cases kV:k<ss.length
   .obtain⟨s,hx⟩:∃x,ss[k]? = some x:=⟨_,ac kV⟩;have pJ:=Hd (hs s (am hx));have lG:=Hd (zHe ss ks k s hx);rw[lG.o]at HP;obtain⟨a',c',hv',hc',h3⟩:=HV.o;obtain⟨rfl,nj,rfl⟩:=bL hv';clear nj hc';obtain⟨g,o,rfl,hg',mU⟩:=h3 a_;obtain⟨vA,vE,vF,t0,t1,t2,t3,t4,pA,pE,pF⟩:=mU k s hx;have d0:=(kO.o.cell (p:=⟨g,_,none⟩) hg').trans t0;have d1:=(kO.o.cell (p:=⟨g,_,none⟩) hg').trans t1;have d2:=(kO.o.cell (p:=⟨g,_,none⟩) hg').trans t2;have d3:=(kO.o.cell (p:=⟨g,_,none⟩) hg').trans t3;have d4:=(kO.o.cell (p:=⟨g,_,none⟩) hg').trans t4;clear t0 t1 t2 t3 t4;have hg2:g<wr.heap.size:=aU hg' kO.o.size;have qI:=Hd (And.intro pA (And.intro pE pF));obtain⟨aA,cA,rfl,zA,G8⟩:=pA;obtain⟨aE,cE,rfl,zE,G9⟩:=pE;obtain⟨aF,cF,rfl,zF,Ha⟩:=pF;clear zA G8 zE G9 zF Ha;have qy:=Hd (aI wr 50 #[.string (bs s.key),.string (bs s.type),.slice aA s.author.length cA,.slice aE s.editor.length cE,.slice aF s.fields.length cF]);have MK:=Hd (fun w=>zjR s.type w pJ.o.2.2.2.2.2.2.2);have AZ:=Hd (fun w=>zjR s.key w pJ.o.2.2.2.2.2.2.1);have pP:=Hd (fun w hg pA pE pF=>zBl s (.slice aA s.author.length cA) (.slice aE s.editor.length cE) (.slice aF s.fields.length cF) w hg pA pE pF pJ.o.1 pJ.o.2.1 pJ.o.2.2.1 pJ.o.2.2.2.1 pJ.o.2.2.2.2.1 pJ.o.2.2.2.2.2.1);clear mU h3 hv' hx lG;go_wp2_with fail;refine k_ (MK.o _) fun w3 li=>?_;have e0:w3.cell? ⟨wr.heap.size,0,none⟩=some (.string (bs s.key)):=(qy.o.kept li).cell 0 _ rfl;have A9:=Hd (qy.o.kept li);have lq:=Hd ((zaA wr _).trans li);have z3:=A9.o.lt;clear li d0 d1 d2 d3 d4 hg' hg2;cases hnt:za8 s.type
    .rw[ae (.inl hnt)]at HP;go_wp2;go_ret;exact⟨by rw[HP.o];rfl,kO.o.trans lq.o⟩
    go_wp2_with fail;refine k_ (AZ.o _) fun w4 mu=>?_;have f0:w4.cell? ⟨wr.heap.size,0,none⟩=some (.string (bs s.key)):=(A9.o.kept mu).cell 0 _ rfl;have Dh:=Hd (A9.o.kept mu);have mg:=Hd (lq.o.trans mu);have rC:=Hd (HM.o.kept mg.o);clear mu e0;cases hnk:za8 s.key
    .rw[ae (.inr hnk)]at HP;go_wp2;go_ret;exact⟨by rw[HP.o];rfl,kO.o.trans mg.o⟩
    rw[aa (by simp [hnt,hnk])]at HP;have lk:=zx4 w4 w.heap.size ks s.key rC.o;cases nz:ks.contains s.key
    case true =>
     rw[ae nz]at HP;rw[nz]at lk;go_wp2;go_ret;exact⟨by rw[HP.o];rfl,kO.o.trans mg.o⟩
    rw[aa (by rw[nz];simp)]at HP;rw[nz]at lk;have ins:=zIO w4 w.heap.size ks s.key rC.o (by simpa using nz);have lV:wr.heap.size≠w.heap.size:=(by have:=HM.o.lt;omega);have oF:=Hd (zdX w4 w.heap.size (ks++[s.key]));have sa:=Hd (zg3 w4 w.heap.size (ks++[s.key]) rC.o.lt);have pK:Hi (Blk (zo9 w4 w.heap.size (ks++[s.key])) wr.heap.size 50 #[.string (bs s.key),.string (bs s.type),.slice aA s.author.length cA,.slice aE s.editor.length cE,.slice aF s.fields.length cF]):=(oF.o.block _ Dh.o.lt lV).trans Dh.o;have lX:Hi (Kept w (zo9 w4 w.heap.size (ks++[s.key]))):=(kO.o.trans mg.o).trans' (oF.o.below (kO.o.trans mg.o).size (fun i h=>by omega));generalize zo9 w4 w.heap.size (ks++[s.key])=w5 at *;have g0:=pK.o.cell 0 _ rfl;have g1:=pK.o.cell 1 _ rfl;have g2:=pK.o.cell 2 _ rfl;have g3:=pK.o.cell 3 _ rfl;have g4:=pK.o.cell 4 _ rfl;go_wp2_with fail;refine k_ (pP.o _ (hg.kept lX.o) (qI.o.1.kept lX.o) (qI.o.2.1.kept lX.o) (qI.o.2.2.kept lX.o)) fun w6 oW=>?_;have lH:=Hd (lX.o.trans oW);have xJ:=Hd (sa.o.kept oW);clear oW g0 g1 g2 g3 g4;generalize zBk s=E at *;by_cases hE:E=0
    .subst hE;rw[aa b_]at HP;go_wp2;go_roundw
     .exact⟨k+1,ks++[s.key],a_,by go_num,HP,xJ,lH⟩
     .simp [intOf];omega
    .rw[ae hE]at HP;go_wp2;go_ret;exact⟨by rw[HP.o];rfl,lH.o⟩
   .obtain rfl:k=ss.length:=a_;rw[du]at HP;have HZ:Hi (R=0):=HP.o;go_wp2;go_ret;exact⟨by rw[HZ.o];rfl,kO.o⟩
end Go.Proofs.YtnldgmhdjancbaaGreatDoor
