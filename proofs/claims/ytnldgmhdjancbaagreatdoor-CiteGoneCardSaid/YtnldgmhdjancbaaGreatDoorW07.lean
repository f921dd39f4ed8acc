/- Parts. -/
import Derived.Test.YtnldgmhdjancbaaGreatDoorW06
set_option linter.all false
set_option maxRecDepth 100000
set_option maxHeartbeats 3200000
namespace Go.Proofs.YtnldgmhdjancbaaGreatDoor
open Go.RowKit Go.Proofs.Tryz
def zl7:List Pr:=[([42],[123,97,117,116,104,111,114,115,125,32,40,123,121,101,97,114,125,123,115,117,102,102,105,120,125,41,46,32,123,116,105,116,108,101,125,46,91,32,123,112,117,98,108,105,115,104,101,114,125,46,93]),([97,114,116,105,99,108,101],[123,97,117,116,104,111,114,115,125,32,40,123,121,101,97,114,125,123,115,117,102,102,105,120,125,41,46,32,123,116,105,116,108,101,125,46,32,123,106,111,117,114,110,97,108,125,91,32,123,118,111,108,117,109,101,125,93,91,44,32,123,112,97,103,101,115,125,93,46])]
def zd2:StyT:=⟨[97,117,116,104,111,114,45,100,97,116,101],false,[97,117,116,104,111,114,32,121,101,97,114,32,116,105,116,108,101,32,107,101,121],[123,97,117,116,104,111,114,125,32,123,121,101,97,114,125,123,115,117,102,102,105,120,125],[123,121,101,97,114,125,123,115,117,102,102,105,120,125],[59,32],[40],[41],2,zl7⟩
def zt2:List Pr:=[([42],[123,110,117,109,98,101,114,125,46,32,123,97,117,116,104,111,114,115,125,46,32,123,116,105,116,108,101,125,91,44,32,123,121,101,97,114,125,93,46]),([97,114,116,105,99,108,101],[123,110,117,109,98,101,114,125,46,32,123,97,117,116,104,111,114,115,125,46,32,123,116,105,116,108,101,125,46,32,123,106,111,117,114,110,97,108,125,91,32,123,118,111,108,117,109,101,125,93,91,44,32,123,121,101,97,114,125,93,91,44,32,123,112,97,103,101,115,125,93,46])]
def zeQ:StyT:=⟨[110,117,109,101,114,105,99],true,[],[123,110,117,109,98,101,114,125],[123,110,117,109,98,101,114,125],[44,32],[91],[93],3,zt2⟩
def zrL:StyT:=⟨[],false,[],[],[],[],[],[],0,[]⟩
def zAW(n:Bs):Option StyT:=if n=zd2.name then some zd2 else if n=zeQ.name then some zeQ else none
def StyP(o:Option StyT)(w:World)(e:Ending)(w':World):Prop:=∃vE,e=.returned (.tuple #[zfA vE (o.getD zrL),.bool o.isSome])/\Prs w' vE (o.getD zrL).entries/\Kept w w'
def zt3(w:World)(p q:Pr):Prs (w.alloc (.cells #[.string (bs p.1),.string (bs p.2),.string (bs q.1),.string (bs q.2)] 46)) (.slice (some ⟨w.heap.size,0,none⟩) 2 2) [p,q]:=by
 refine⟨_,_,rfl,aw _,fun _=>⟨w.heap.size,0,rfl,b_,fun j x hx=>?_⟩⟩;have hb:=aI w 46 #[.string (bs p.1),.string (bs p.2),.string (bs q.1),.string (bs q.2)]
 match j with
 | 0=>cases hx;exact⟨hb.cell 0 _ rfl,hb.cell 1 _ rfl⟩
 | 1=>cases hx;exact⟨hb.cell 2 _ rfl,hb.cell 3 _ rfl⟩
 | j+2=>simp at hx
def zkH(n:Bs)(w:World):Calls prog 17 #[.string (bs n)] w (StyP (zAW n) w):=by
 by_cases h1:n=zd2.name
 .have e:zAW n=some zd2:=(by unfold zAW;rw[ae h1]);rw[e];subst h1;clear e;unfold StyP;show Calls _ _ #[.string (bs [97,117,116,104,111,114,45,100,97,116,101])] _ _;go_in;go_wp2_with fail;refine bM (v:=.tuple #[zfA (.slice (some ⟨w.heap.size+1,0,none⟩) 2 2) zd2,.bool true]) ?_ rfl ⟨_,rfl,?_,(zaA _ _).trans (zaA _ _)⟩
  .unfold zfA zaK zd2;simp [results,kD,go_sem]
  .have h:=zt3 (w.alloc (.cells (zaK (.slice (some ⟨w.heap.size+1,0,none⟩) 2 2) zd2) 28)) (zl7.getD 0 ([],[])) (zl7.getD 1 ([],[]));have e:(w.alloc (.cells (zaK (.slice (some ⟨w.heap.size+1,0,none⟩) 2 2) zd2) 28)).heap.size=w.heap.size+1:=b_;rw[e]at h;exact h
 by_cases h2:n=zeQ.name
 .have e:zAW n=some zeQ:=(by unfold zAW;rw[aa h1,ae h2]);rw[e];subst h2;clear e h1;unfold StyP;show Calls _ _ #[.string (bs [110,117,109,101,114,105,99])] _ _;go_in;go_wp2_with fail;refine bM (v:=.tuple #[zfA (.slice (some ⟨w.heap.size+1,0,none⟩) 2 2) zeQ,.bool true]) ?_ rfl ⟨_,rfl,?_,(zaA _ _).trans (zaA _ _)⟩
  .unfold zfA zaK zeQ;simp [results,kD,go_sem]
  .have h:=zt3 (w.alloc (.cells (zaK (.slice (some ⟨w.heap.size+1,0,none⟩) 2 2) zeQ) 28)) (zt2.getD 0 ([],[])) (zt2.getD 1 ([],[]));have e:(w.alloc (.cells (zaK (.slice (some ⟨w.heap.size+1,0,none⟩) 2 2) zeQ) 28)).heap.size=w.heap.size+1:=b_;rw[e]at h;exact h
 have e:zAW n=none:=(by unfold zAW;rw[aa h1,aa h2]);rw[e];have g1:(n==([97,117,116,104,111,114,45,100,97,116,101]:Bs))=false:=ab.2 h1;have g2:(n==([110,117,109,101,114,105,99]:Bs))=false:=ab.2 h2;clear e h1 h2;unfold StyP;go_in;go_wp2_with fail;refine bM (v:=.tuple #[zfA (.slice none 0 0) zrL,.bool false]) ?_ rfl ⟨_,rfl,⟨none,0,rfl,aw _,fun q=>absurd q (by simp [zrL])⟩,zaA _ _⟩;unfold zfA zaK zrL;simp [results,kD,go_sem]
def zpC(n:Nat)(h:¬ n<10):Lib.decDigits n=Lib.decDigits (n / 10)++[UInt8.ofNat (48+n % 10)]:=by
 rw[Lib.decDigits,jP h]
def zbR:List Word:=[([115,101,99,116,105,111,110],[83,101,99,116,105,111,110],[83,101,99,116,105,111,110,115]),([102,105,103,117,114,101],[70,105,103,117,114,101],[70,105,103,117,114,101,115]),([116,97,98,108,101],[84,97,98,108,101],[84,97,98,108,101,115]),([101,113,117,97,116,105,111,110],[69,113,117,97,116,105,111,110],[69,113,117,97,116,105,111,110,115]),([112,97,103,101],[80,97,103,101],[80,97,103,101,115]),([97,110,100],[97,110,100],[97,110,100]),([111,116,104,101,114,115],[111,116,104,101,114,115],[111,116,104,101,114,115]),([101,100,105,116,101,100],[101,100,105,116,101,100,32,98,121],[101,100,105,116,101,100,32,98,121]),([99,111,110,116,101,110,116,115],[67,111,110,116,101,110,116,115],[67,111,110,116,101,110,116,115]),([105,110,100,101,120],[73,110,100,101,120],[73,110,100,101,120,101,115]),([114,101,102,101,114,101,110,99,101,115],[82,101,102,101,114,101,110,99,101,115],[82,101,102,101,114,101,110,99,101,115]),([103,108,111,115,115,97,114,121],[71,108,111,115,115,97,114,121],[71,108,111,115,115,97,114,105,101,115]),([110,111,116,101],[78,111,116,101],[78,111,116,101,115]),([99,104,97,112,116,101,114],[67,104,97,112,116,101,114],[67,104,97,112,116,101,114,115])]
def zbS:List Word:=[([115,101,99,116,105,111,110],[65,98,115,99,104,110,105,116,116],[65,98,115,99,104,110,105,116,116,101]),([102,105,103,117,114,101],[65,98,98,105,108,100,117,110,103],[65,98,98,105,108,100,117,110,103,101,110]),([116,97,98,108,101],[84,97,98,101,108,108,101],[84,97,98,101,108,108,101,110]),([101,113,117,97,116,105,111,110],[71,108,101,105,99,104,117,110,103],[71,108,101,105,99,104,117,110,103,101,110]),([112,97,103,101],[83,101,105,116,101],[83,101,105,116,101,110]),([97,110,100],[117,110,100],[117,110,100]),([111,116,104,101,114,115],[97,110,100,101,114,101],[97,110,100,101,114,101]),([101,100,105,116,101,100],[104,101,114,97,117,115,103,101,103,101,98,101,110,32,118,111,110],[104,101,114,97,117,115,103,101,103,101,98,101,110,32,118,111,110]),([99,111,110,116,101,110,116,115],[73,110,104,97,108,116],[73,110,104,97,108,116]),([105,110,100,101,120],[82,101,103,105,115,116,101,114],[82,101,103,105,115,116,101,114]),([114,101,102,101,114,101,110,99,101,115],[76,105,116,101,114,97,116,117,114],[76,105,116,101,114,97,116,117,114]),([103,108,111,115,115,97,114,121],[71,108,111,115,115,97,114],[71,108,111,115,115,97,114,101]),([110,111,116,101],[65,110,109,101,114,107,117,110,103],[65,110,109,101,114,107,117,110,103,101,110]),([99,104,97,112,116,101,114],[75,97,112,105,116,101,108],[75,97,112,105,116,101,108])]
def zbJ:List Word:=[([115,101,99,116,105,111,110],[83,101,99,116,105,111,110],[83,101,99,116,105,111,110,115]),([102,105,103,117,114,101],[70,105,103,117,114,101],[70,105,103,117,114,101,115]),([116,97,98,108,101],[84,97,98,108,101,97,117],[84,97,98,108,101,97,117,120]),([101,113,117,97,116,105,111,110],[195,137,113,117,97,116,105,111,110],[195,137,113,117,97,116,105,111,110,115]),([112,97,103,101],[80,97,103,101],[80,97,103,101,115]),([97,110,100],[101,116],[101,116]),([111,116,104,101,114,115],[97,117,116,114,101,115],[97,117,116,114,101,115]),([101,100,105,116,101,100],[195,169,100,105,116,195,169,32,112,97,114],[195,169,100,105,116,195,169,32,112,97,114]),([99,111,110,116,101,110,116,115],[84,97,98,108,101,32,100,101,115,32,109,97,116,105,195,168,114,101,115],[84,97,98,108,101,32,100,101,115,32,109,97,116,105,195,168,114,101,115]),([105,110,100,101,120],[73,110,100,101,120],[73,110,100,101,120]),([114,101,102,101,114,101,110,99,101,115],[82,195,169,102,195,169,114,101,110,99,101,115],[82,195,169,102,195,169,114,101,110,99,101,115]),([103,108,111,115,115,97,114,121],[71,108,111,115,115,97,105,114,101],[71,108,111,115,115,97,105,114,101,115]),([110,111,116,101],[78,111,116,101],[78,111,116,101,115]),([99,104,97,112,116,101,114],[67,104,97,112,105,116,114,101],[67,104,97,112,105,116,114,101,115])]
def zbK:List Word:=[([115,101,99,116,105,111,110],[83,101,99,99,105,195,179,110],[83,101,99,99,105,111,110,101,115]),([102,105,103,117,114,101],[70,105,103,117,114,97],[70,105,103,117,114,97,115]),([116,97,98,108,101],[84,97,98,108,97],[84,97,98,108,97,115]),([101,113,117,97,116,105,111,110],[69,99,117,97,99,105,195,179,110],[69,99,117,97,99,105,111,110,101,115]),([112,97,103,101],[80,195,161,103,105,110,97],[80,195,161,103,105,110,97,115]),([97,110,100],[121],[121]),([111,116,104,101,114,115],[111,116,114,111,115],[111,116,114,111,115]),([101,100,105,116,101,100],[101,100,105,116,97,100,111,32,112,111,114],[101,100,105,116,97,100,111,32,112,111,114]),([99,111,110,116,101,110,116,115],[67,111,110,116,101,110,105,100,111],[67,111,110,116,101,110,105,100,111]),([105,110,100,101,120],[195,141,110,100,105,99,101],[195,141,110,100,105,99,101,115]),([114,101,102,101,114,101,110,99,101,115],[82,101,102,101,114,101,110,99,105,97,115],[82,101,102,101,114,101,110,99,105,97,115]),([103,108,111,115,115,97,114,121],[71,108,111,115,97,114,105,111],[71,108,111,115,97,114,105,111,115]),([110,111,116,101],[78,111,116,97],[78,111,116,97,115]),([99,104,97,112,116,101,114],[67,97,112,195,173,116,117,108,111],[67,97,112,195,173,116,117,108,111,115])]
def zaN(w:World)(L:List Word)(i:Nat)(x:Word)(h:L[i]? = some x)(hd:∀y∈L.take i,y.1≠x.1):(Instr.mapUpdate 251 (.map (some w.heap.size)) (.string (bs x.1)) (.agg #[.string (bs x.2.1),.string (bs x.2.2)])).run prog (zqP w (L.take i))=.ok () (zqP w (L.take (i+1))):=by
 have e:L.take (i+1)=L.take i++[x]:=(by rw[eo,h];rfl);rw[e];exact zG2 w _ x.1 x.2.1 x.2.2 hd
def zkI(w:World):Calls prog 185 #[.string (bs [101,110])] w fun e w'=>e=.returned (.map (some w.heap.size))/\w'=zqP w zbR:=by
 have mk:=zlC w;have n0:=zaN w zbR 0 _ rfl c_;have n1:=zaN w zbR 1 _ rfl c_;have n2:=zaN w zbR 2 _ rfl c_;have n3:=zaN w zbR 3 _ rfl c_;have n4:=zaN w zbR 4 _ rfl c_;have n5:=zaN w zbR 5 _ rfl c_;have n6:=zaN w zbR 6 _ rfl c_;have n7:=zaN w zbR 7 _ rfl c_;have n8:=zaN w zbR 8 _ rfl c_;have n9:=zaN w zbR 9 _ rfl c_;have n10:=zaN w zbR 10 _ rfl c_;have n11:=zaN w zbR 11 _ rfl c_;have n12:=zaN w zbR 12 _ rfl c_;have n13:=zaN w zbR 13 _ rfl c_;simp only[zbR,cH,da]at n0 n1 n2 n3 n4 n5 n6 n7 n8 n9 n10 n11 n12 n13;go_enter iT,iu;go_wp2;go_ret;exact⟨rfl,rfl⟩
def zkJ(w:World):Calls prog 185 #[.string (bs [100,101])] w fun e w'=>e=.returned (.map (some w.heap.size))/\w'=zqP w zbS:=by
 have mk:=zlC w;have n0:=zaN w zbS 0 _ rfl c_;have n1:=zaN w zbS 1 _ rfl c_;have n2:=zaN w zbS 2 _ rfl c_;have n3:=zaN w zbS 3 _ rfl c_;have n4:=zaN w zbS 4 _ rfl c_;have n5:=zaN w zbS 5 _ rfl c_;have n6:=zaN w zbS 6 _ rfl c_;have n7:=zaN w zbS 7 _ rfl c_;have n8:=zaN w zbS 8 _ rfl c_;have n9:=zaN w zbS 9 _ rfl c_;have n10:=zaN w zbS 10 _ rfl c_;have n11:=zaN w zbS 11 _ rfl c_;have n12:=zaN w zbS 12 _ rfl c_;have n13:=zaN w zbS 13 _ rfl c_;simp only[zbS,cH,da]at n0 n1 n2 n3 n4 n5 n6 n7 n8 n9 n10 n11 n12 n13;go_enter iT,iu;go_wp2;go_ret;exact⟨rfl,rfl⟩
def zx6(w:World):Calls prog 199 #[.string (bs [102,114])] w fun e w'=>e=.returned (.map (some w.heap.size))/\w'=zqP w zbJ:=by
 have mk:=zlC w;have n0:=zaN w zbJ 0 _ rfl c_;have n1:=zaN w zbJ 1 _ rfl c_;have n2:=zaN w zbJ 2 _ rfl c_;have n3:=zaN w zbJ 3 _ rfl c_;have n4:=zaN w zbJ 4 _ rfl c_;have n5:=zaN w zbJ 5 _ rfl c_;have n6:=zaN w zbJ 6 _ rfl c_;have n7:=zaN w zbJ 7 _ rfl c_;have n8:=zaN w zbJ 8 _ rfl c_;have n9:=zaN w zbJ 9 _ rfl c_;have n10:=zaN w zbJ 10 _ rfl c_;have n11:=zaN w zbJ 11 _ rfl c_;have n12:=zaN w zbJ 12 _ rfl c_;have n13:=zaN w zbJ 13 _ rfl c_;simp only[zbJ,cH,da]at n0 n1 n2 n3 n4 n5 n6 n7 n8 n9 n10 n11 n12 n13;go_in;go_wp2;go_ret;exact⟨rfl,rfl⟩
def zx7(w:World):Calls prog 199 #[.string (bs [101,115])] w fun e w'=>e=.returned (.map (some w.heap.size))/\w'=zqP w zbK:=by
 have mk:=zlC w;have n0:=zaN w zbK 0 _ rfl c_;have n1:=zaN w zbK 1 _ rfl c_;have n2:=zaN w zbK 2 _ rfl c_;have n3:=zaN w zbK 3 _ rfl c_;have n4:=zaN w zbK 4 _ rfl c_;have n5:=zaN w zbK 5 _ rfl c_;have n6:=zaN w zbK 6 _ rfl c_;have n7:=zaN w zbK 7 _ rfl c_;have n8:=zaN w zbK 8 _ rfl c_;have n9:=zaN w zbK 9 _ rfl c_;have n10:=zaN w zbK 10 _ rfl c_;have n11:=zaN w zbK 11 _ rfl c_;have n12:=zaN w zbK 12 _ rfl c_;have n13:=zaN w zbK 13 _ rfl c_;simp only[zbK,cH,da]at n0 n1 n2 n3 n4 n5 n6 n7 n8 n9 n10 n11 n12 n13;go_in;go_wp2;go_ret;exact⟨rfl,rfl⟩
def zkK(w:World):Calls prog 185 #[.string (bs [102,114])] w fun e w'=>e=.returned (.map (some w.heap.size))/\w'=zqP w zbJ:=by
 go_enter iT,iu;go_wp2_with fail;refine k_ (zx6 _) fun w1 hw=>?_;have HW:=Hd hw;clear hw;go_wp2;go_ret;exact⟨rfl,HW.o⟩
def zkL(w:World):Calls prog 185 #[.string (bs [101,115])] w fun e w'=>e=.returned (.map (some w.heap.size))/\w'=zqP w zbK:=by
 go_enter iT,iu;go_wp2_with fail;refine k_ (zx7 _) fun w1 hw=>?_;have HW:=Hd hw;clear hw;go_wp2;go_ret;exact⟨rfl,HW.o⟩
def zx8(l:Bs)(w:World)(h3:(l==[102,114])=false)(h4:(l==[101,115])=false):Calls prog 199 #[.string (bs l)] w fun e w'=>e=.returned (.map none)/\w=w':=by
 go_in;go_wp2;go_ret;exact⟨rfl,rfl⟩
def zD7(l:Bs)(w:World)(h1:(l==[101,110])=false)(h2:(l==[100,101])=false)(h3:(l==[102,114])=false)(h4:(l==[101,115])=false):Calls prog 185 #[.string (bs l)] w fun e w'=>e=.returned (.map none)/\w=w':=by
 go_enter iT,iu;go_wp2_with fail;refine(zx8 l _ h3 h4).mono ?_;rintro e w1 ⟨rfl,rfl⟩;go_wp2;go_ret;exact⟨rfl,rfl⟩
def lEn:Bs:=[101,110]
def lDe:Bs:=[100,101]
def lFr:Bs:=[102,114]
def lEs:Bs:=[101,115]
def zeR(lang k v:Bs)(L:List Word)(n:Int)(w:World)(hl:∀w,Calls prog 185 #[.string (bs lang)] w fun e w'=>e=.returned (.map (some w.heap.size))/\w'=zqP w L)(hk:L.find? (fun x=>x.1==k)=some (k,v,v)):Calls prog 152 #[.string (bs lang),.string (bs k),.int .i64 n] w fun e w'=>e=.returned (.tuple #[.string (bs v),.bool true])/\Kept w w':=by
 have HL:=Hd hl;have HF:=Hd hk;clear hl hk;by_cases hn:n=1
 .subst hn;go_in;go_wp2_with fail;refine k_ (HL.o _) fun w1 hw=>?_;have lk:=zv3 w1 w.heap.size L k v v (by rw[hw];exact zl5 _ _) HF.o;have HK:Hi (Kept w w1):=(by show Kept _ _;rw[hw];exact zaA _ _);clear hw;go_wp2;go_ret2;exact⟨rfl,HK.o.trans (zaA _ _)⟩
 .have hn':(n==1)=false:=(by simpa using hn);clear hn;go_in;go_wp2_with fail;refine k_ (HL.o _) fun w1 hw=>?_;have lk:=zv3 w1 w.heap.size L k v v (by rw[hw];exact zl5 _ _) HF.o;have HK:Hi (Kept w w1):=(by show Kept _ _;rw[hw];exact zaA _ _);clear hw;go_wp2;go_ret2;exact⟨rfl,HK.o.trans (zaA _ _)⟩
def zt4(n:Int)(w:World):Calls prog 152 #[.string (bs [101,110]),.string (bs [97,110,100]),.int .i64 n] w fun e w'=>e=.returned (.tuple #[.string (bs [97,110,100]),.bool true])/\Kept w w' :=
 zeR _ _ _ zbR n w zkI c_
def znL(n:Int)(w:World):Calls prog 152 #[.string (bs [101,110]),.string (bs [111,116,104,101,114,115]),.int .i64 n] w fun e w'=>e=.returned (.tuple #[.string (bs [111,116,104,101,114,115]),.bool true])/\Kept w w' :=
 zeR _ _ _ zbR n w zkI c_
def zt5(n:Int)(w:World):Calls prog 152 #[.string (bs [100,101]),.string (bs [97,110,100]),.int .i64 n] w fun e w'=>e=.returned (.tuple #[.string (bs [117,110,100]),.bool true])/\Kept w w' :=
 zeR _ _ _ zbS n w zkJ c_
def znM(n:Int)(w:World):Calls prog 152 #[.string (bs [100,101]),.string (bs [111,116,104,101,114,115]),.int .i64 n] w fun e w'=>e=.returned (.tuple #[.string (bs [97,110,100,101,114,101]),.bool true])/\Kept w w' :=
 zeR _ _ _ zbS n w zkJ c_
def zt6(n:Int)(w:World):Calls prog 152 #[.string (bs [102,114]),.string (bs [97,110,100]),.int .i64 n] w fun e w'=>e=.returned (.tuple #[.string (bs [101,116]),.bool true])/\Kept w w' :=
 zeR _ _ _ zbJ n w zkK c_
def znN(n:Int)(w:World):Calls prog 152 #[.string (bs [102,114]),.string (bs [111,116,104,101,114,115]),.int .i64 n] w fun e w'=>e=.returned (.tuple #[.string (bs [97,117,116,114,101,115]),.bool true])/\Kept w w' :=
 zeR _ _ _ zbJ n w zkK c_
def zt7(n:Int)(w:World):Calls prog 152 #[.string (bs [101,115]),.string (bs [97,110,100]),.int .i64 n] w fun e w'=>e=.returned (.tuple #[.string (bs [121]),.bool true])/\Kept w w' :=
 zeR _ _ _ zbK n w zkL c_
def znO(n:Int)(w:World):Calls prog 152 #[.string (bs [101,115]),.string (bs [111,116,104,101,114,115]),.int .i64 n] w fun e w'=>e=.returned (.tuple #[.string (bs [111,116,114,111,115]),.bool true])/\Kept w w' :=
 zeR _ _ _ zbK n w zkL c_
def zAX(w:World):(zeroValue 249).run prog w=.ok (.agg #[.string (bs []),.string (bs [])]) w:=g_
def zrM(k:Bs)(w:World):(Instr.lookup 251 (.map none) (.string (bs k)) true).run prog w=.ok (.tuple #[.agg #[.string (bs []),.string (bs [])],.bool false]) w:=by
 have hu:prog.underlying 251=some (.map 9 249):=jG;have hf:=ziQ w [] k b_;have e:(zgA []).toList=([]:List MapEntry):=rfl;rw[e]at hf;unfold Instr.lookup;simp only[bo,bT hu,Result.andThen];simp only[bn,Result.andThen,zfB,hf,zAX,bo];simp [bn]
def zAY(l k:Bs)(n:Int)(w:World)(h1:(l==[101,110])=false)(h2:(l==[100,101])=false)(h3:(l==[102,114])=false)(h4:(l==[101,115])=false):Calls prog 152 #[.string (bs l),.string (bs k),.int .i64 n] w fun e w'=>e=.returned (.tuple #[.string (bs []),.bool false])/\Kept w w':=by
 have lk:=zrM k;have HW:=Hd (fun w=>zD7 l w h1 h2 h3 h4);clear h1 h2 h3 h4;go_in;go_wp2_with fail;refine(HW.o _).mono ?_;rintro e w1 ⟨rfl,rfl⟩;go_wp2;go_ret2;exact⟨rfl,zaA _ _⟩
def zfZ(x:Bs):Bool:=!x.isEmpty
def zl8(sp:List Bs)(k:Nat)(x:Bs)(h:sp[k]? = some x):(sp.take (k+1)).filter zfZ=(sp.take k).filter zfZ++(if zfZ x then [x]else []):=by
 obtain⟨hk,rfl⟩:=ak.1 h;rw[bf hk,gY];congr 1;by_cases q:zfZ sp[k]=true
 .rw[ae q];simp [q]
 .rw[aa q];simp [q]
def zrN(sp:List Bs)(k:Nat):((sp.take k).filter zfZ).length<=k :=
 bC (fC _ _) (List.length_take_le _ _)
def zl9(xs:List Bs):(Lib.join xs [32]).length<=(xs.map (fun x=>x.length+1)).sum:=by
 cases xs with
 | nil=>simp [kh]
 | cons a r =>
  rw[gC];have:∀r:List Bs,(Lib.joinTail [32] r).length=(r.map (fun x=>x.length+1)).sum:=by
   intro r
   induction r with
   | nil=>rfl
   | cons b r ih=>unfold Lib.joinTail at ih ⊢;simp only[bd,dN,ah,ih,gB];simp;omega
  rw[ah,this r];simp
def zf0(p:Bs->Bool):∀xs:List Bs,((xs.filter p).map (fun x=>x.length+1)).sum<=(xs.map (fun x=>x.length+1)).sum
 | []=>by simp
 | a::r=>by
  have ih:=zf0 p r;rw[eh]
  split<;>simp<;>omega
def zD8(c:UInt8)(l:Bs):((zxL c l).1.map (fun x=>x.length+1)).sum+(zxL c l).2.length=l.length:=by
 refine zvU (P:=fun l=>((zxL c l).1.map (fun x=>x.length+1)).sum+(zxL c l).2.length=l.length) ?_ ?_ l
 .simp [zxL]
 .intro l b ih;rw[zAl];unfold zcC
  split<;>simp [eT]<;>omega
def zx9(c:UInt8)(l:Bs):((zbB c l).map (fun x=>x.length+1)).sum=l.length+1:=by
 have:=zD8 c l;unfold zbB;rw[cI,eT];simp;omega
def zAZ(l:Bs):(zlV l).length<=l.length+1:=by
 unfold zlV zAm;have h1:=zl9 ((zbB 32 l).filter (fun x=>!x.isEmpty));have h2:=zf0 (fun x=>!x.isEmpty) (zbB 32 l);have h3:=zx9 32 l;omega
def zA0(l:Bs)(w:World)(hg:Gnd w)(hs:l.length<=100000000):Calls prog 164 #[.string (bs l)] w fun e w'=>e=.returned (.string (bs (zlV l)))/\Kept w w':=by
 obtain⟨i0,hi,mr,mq,mm⟩:=cg Tryz.infoStr;have oR:Hi (zlV l=Lib.join ((zbB 32 l).filter zfZ) [32]):=rfl;have mh:=zAZ l;have hsl:(zbB 32 l).length<=l.length+1:=(by rw[zd7];have:=gG (a:=(32:UInt8)) (l:=l);omega);go_in;go_wp2_with fail;refine(zqX l 32 _ hg a_).mono ?_;rintro e w1 ⟨rfl,hw1⟩;have hz:w1.heap.size=w.heap.size+1:=(by rw[hw1];simp);have ld:Kept w w1:=(by rw[hw1];exact zaA _ _);have ol:∀j x,(zbB 32 l)[j]? = some x->w1.cell? ⟨w.heap.size,j,none⟩=some (.string (bs x)):=by
  intro j x hx;have:=zbO w (zaL (zbB 32 l)).toArray 9 w.heap.size rfl j (.string (bs x)) (zhU _ j x hx);rw[hw1];have e1:((⟨w.heap.size,0,none⟩:Addr).add j)=⟨w.heap.size,j,none⟩:=(by unfold Addr.add;split<;>simp_all);rw[e1]at this;exact this
 generalize zbB 32 l=sp at *;have qZ:=Hd ol;have kT:=Hd ld;have HZ:=Hd hz;have hzl:w.heap.size<w1.heap.size:=a_;clear ol ld hw1 hz;go_wp2_with fail;go_loopw [3,9] (fun v i wr=>∃(k:Nat),k<=sp.length/\i=.int .i64 k/\wr.ownsRow w1.heap.size 9 1 v ((sp.take k).filter zfZ).length (zaL ((sp.take k).filter zfZ))/\Kept w1 wr) (fun _ i _=>sp.length - (intOf i).toNat)
 .exact⟨0,ai _,rfl,dg _ _ _ _,af _⟩
 case round =>
  obtain⟨k,hkl,rfl,lc,ou⟩:=hrel;by_cases kV:k<sp.length
  .obtain⟨x,hx⟩:∃x,sp[k]? = some x:=⟨_,ac kV⟩;have kR:wr.cell? ⟨w.heap.size,k,none⟩=some (.string (bs x)):=(ou.cell (p:=⟨w.heap.size,k,none⟩) hzl).trans (qZ.o k x hx);have HF:=Hd (zl8 sp k x hx);have hfl:=zrN sp k;generalize (sp.take k).filter zfZ=ws at *;have ny:w1.heap.size<=wr.heap.size:=ou.size;have HR:=Hd ou;have HW:=Hd lc;clear ou hx lc;by_cases he:x=[]
   .subst he;go_wp2;go_roundw
    .exact⟨k+1,a_,by go_num,by rw[HF.o];simpa [zfZ]using HW.o,HR.o⟩
    .simp [intOf];omega
   .have lc:=HW.o;have xG:x.isEmpty=false:=(by simpa using he);go_wp2_with (at_builtin;refine cV _ rfl _ _ 37 rfl w1.heap.size 9 i0 (.string ⟨#[]⟩) 1 16 dw hi mr mq mm rfl c_ _ _ _ rfl (lc.alloc _) ⟨wr.heap.size,0,none⟩ 1 1 [.string (bs x)] rfl rfl ?c1 ?c2 ?c3 ?c4 ?c5 ?_)
    case c1=>exact zbO _ #[.string (bs x)] _ _ b_
    case c2=>intro u hu;simp at hu;subst hu;rfl
    case c3=>unfold maxLen;omega
    case c4=>omega
    case c5=>simp;omega
    intro v' w2 lr lw _;have lx:=Hd ((HR.o.trans (zaA wr _)).trans' (za2 (lc.alloc _) lw e_));rw[<- zfX]at lr;have HO:=Hd lr;clear lr lw lc;go_wp2;go_roundw
    .exact⟨k+1,a_,by go_num,by rw[HF.o];simpa [zfZ,xG]using HO.o,lx.o⟩
    .simp [intOf];omega
  .have HW:=Hd (gU lc);have HR:=Hd ou;rw[bx a_]at HW;have hfl:(sp.filter zfZ).length<=sp.length:=fC _ _;clear lc ou;go_wp2_with fail;refine(zd9 _ _ _ _ HW.o a_ (by rw[<- oR.o];omega)).mono ?_;rintro e w2 ⟨rfl,ll⟩;go_wp2;go_ret;exact⟨zf8 oR.o.symm,(kT.o.trans HR.o).trans ll⟩
def zeL(l:Bs):Option Bs:=if l=lEn then some [97,110,100]else if l=lDe then some [117,110,100]else if l=lFr then some [101,116]else if l=lEs then some [121]else none
def zcX(l:Bs):Option Bs:=if l=lEn then some [111,116,104,101,114,115]else if l=lDe then some [97,110,100,101,114,101]else if l=lFr then some [97,117,116,114,101,115]else if l=lEs then some [111,116,114,111,115]else none
def zkM{l m:Bs}(h:¬ l=m):(l==m)=false:=by simpa using h
def zpD(l:Bs)(n:Int)(w:World):Calls prog 152 #[.string (bs l),.string (bs [97,110,100]),.int .i64 n] w fun e w'=>e=.returned (.tuple #[.string (bs ((zeL l).getD [])),.bool (zeL l).isSome])/\Kept w w':=by
 unfold zeL;by_cases h1:l=lEn
 .rw[ae h1,h1];exact zt4 n w
 by_cases h2:l=lDe
 .rw[aa h1,ae h2,h2];exact zt5 n w
 by_cases h3:l=lFr
 .rw[aa h1,aa h2,ae h3,h3];exact zt6 n w
 by_cases h4:l=lEs
 .rw[aa h1,aa h2,aa h3,ae h4,h4];exact zt7 n w
 .rw[aa h1,aa h2,aa h3,aa h4];exact zAY l _ n w (zkM h1) (zkM h2) (zkM h3) (zkM h4)
def zt8(l:Bs)(n:Int)(w:World):Calls prog 152 #[.string (bs l),.string (bs [111,116,104,101,114,115]),.int .i64 n] w fun e w'=>e=.returned (.tuple #[.string (bs ((zcX l).getD [])),.bool (zcX l).isSome])/\Kept w w':=by
 unfold zcX;by_cases h1:l=lEn
 .rw[ae h1,h1];exact znL n w
 by_cases h2:l=lDe
 .rw[aa h1,ae h2,h2];exact znM n w
 by_cases h3:l=lFr
 .rw[aa h1,aa h2,ae h3,h3];exact znN n w
 by_cases h4:l=lEs
 .rw[aa h1,aa h2,aa h3,ae h4,h4];exact znO n w
 .rw[aa h1,aa h2,aa h3,aa h4];exact zAY l _ n w (zkM h1) (zkM h2) (zkM h3) (zkM h4)
def zlD:Bs:=[44,32]
def zhO(l:Bs)(xs:List Bs):Bs:=if(zeL l).isSome=false\/xs.length<2 then Lib.join xs zlD else Lib.join xs.dropLast zlD++[32]++(zeL l).getD []++[32]++xs.getLastD []
def ziR(l:Bs):((zeL l).getD []).length<=3:=by
 unfold zeL;by_cases h1:l=lEn
 .rw[ae h1];decide
 by_cases h2:l=lDe
 .rw[aa h1,ae h2];decide
 by_cases h3:l=lFr
 .rw[aa h1,aa h2,ae h3];decide
 by_cases h4:l=lEs
 .rw[aa h1,aa h2,aa h3,ae h4];decide
 .rw[aa h1,aa h2,aa h3,aa h4];decide
def zyA{w:World}{a:Option Addr}{c:Nat}{xs:List Bs}(h:Strs w (.slice a xs.length c) xs)(n:Nat)(hn:n<=xs.length):Strs w (.slice a n c) (xs.take n):=by
 obtain⟨a',c',hv,hc,h3⟩:=h;obtain⟨rfl,_,rfl⟩:=bL hv;refine⟨a,c,e_,e_,fun q=>?_⟩;obtain⟨g,o,ha,hg,kR⟩:=h3 (by simp at q;omega);refine⟨g,o,ha,hg,fun j x hx=>kR j x ?_⟩;rw[fq]at hx
 split at hx
 .exact hx
 .cases hx
def zA1(l:Bs)(v:Value)(xs:List Bs)(w:World)(hv:Strs w v xs)(hN:xs.length<=1000000)(mh:(Lib.join xs zlD).length<=10000000)(JZ:(Lib.join xs.dropLast zlD).length<=10000000)(hlast:(xs.getLastD []).length<=10000000):Calls prog 154 #[.string (bs l),v] w fun e w'=>e=.returned (.string (bs (zhO l xs)))/\Kept w w':=by
 have HL:Hi (zhO l xs=if(zeL l).isSome=false\/xs.length<2 then Lib.join xs zlD else Lib.join xs.dropLast zlD++[32]++(zeL l).getD []++[32]++xs.getLastD []):=rfl;have HT:=Hd (fun w=>zpD l 1 w);have hal:=ziR l;have HV:=Hd hv;have nh:Hi (zlD=[44,32]):=rfl;generalize (zeL l).getD []=an at *;generalize (zeL l).isSome=ok at *;obtain⟨a,c,rfl,hc,h3⟩:=hv;have H3:=Hd h3;clear h3;cases ok
 .go_in;go_wp2_with fail;refine k_ (HT.o _) fun w1 ld=>?_;have kT:=Hd ld;clear ld;go_wp2_with fail;rw[<- nh.o];refine(zd9 _ xs _ _ (HV.o.kept kT.o) a_ a_).mono ?_;rintro e w2 ⟨rfl,ll⟩;have kX:=Hd (kT.o.trans ll);clear ll;go_wp2;go_ret;exact⟨zf8 (by rw[HL.o,ae (.inl (by first|rfl|trivial))]),kX.o⟩
 by_cases h2:xs.length<2
 .go_in;go_wp2_with fail;refine k_ (HT.o _) fun w1 ld=>?_;have kT:=Hd ld;clear ld;go_wp2_with fail;rw[<- nh.o];refine(zd9 _ xs _ _ (HV.o.kept kT.o) a_ a_).mono ?_;rintro e w2 ⟨rfl,ll⟩;have kX:=Hd (kT.o.trans ll);clear ll;go_wp2;go_ret;exact⟨zf8 (by rw[HL.o,ae (.inr h2)]),kX.o⟩
 .obtain⟨g,o,rfl,hg,kR⟩:=H3.o a_;have hx:xs[xs.length - 1]? = some (xs.getLastD []):=by
   rw[dY,List.getLast?_eq_getElem?,ac a_];rfl
  have nf:=kR (xs.length - 1) _ hx;have HE:Hi (zhO l xs=Lib.join xs.dropLast zlD++[32]++an++[32]++xs.getLastD []):=(by show _=_;rw[HL.o,aa e_]);have HD:Hi (xs.dropLast=xs.take (xs.length - 1)):=(by show _=_;rw[List.dropLast_eq_take]);generalize xs.getLastD []=la at *;have HC:=Hd nf;clear nf hx kR;go_in;go_wp2_with fail;refine k_ (HT.o _) fun w1 ld=>?_;have kT:=Hd ld;have c1:w1.cell? ⟨g,o+(xs.length - 1),none⟩=some (.string (bs la)):=(ld.cell (p:=⟨g,o+(xs.length - 1),none⟩) hg).trans HC.o;have hg1:g<w1.heap.size:=(by have:=ld.size;omega);clear ld;go_wp2_with fail;have HJ:Hi (∀w2,Kept w1 w2->Calls prog 86 #[.slice (some ⟨g,o,none⟩) (xs.length - 1) c,.string (bs [44,32])] w2 fun e w'=>e=.returned (.string (bs (Lib.join xs.dropLast zlD)))/\Kept w2 w'):=by
   intro w2 hk;have oN:=zyA (HV.o.kept (kT.o.trans hk)) (xs.length - 1) a_;rw[<- HD.o]at oN;exact zd9 _ xs.dropLast zlD w2 oN e_ a_
  have ra:Hi (∀{w2:World},Kept w1.drew w2->w2.cell? ⟨g,o+(xs.length - 1),none⟩=some (.string (bs la))/\g<w2.heap.size/\Kept w w2):=by
   intro w2 hk;have hk:Kept w1 w2:=(zaB w1 1).trans hk;exact⟨(hk.cell (p:=⟨g,o+(xs.length - 1),none⟩) hg1).trans c1,by have:=hk.size;omega,kT.o.trans hk⟩
  generalize hjl:Lib.join xs.dropLast zlD=jl at *;have hsum:IntKind.i64.wrap ((xs.length:Int) - 1)=(xs.length:Int) - 1:=kI _ a_
  go_region_with (go_at_call 86;refine k_ (HJ.o _ (zaB w1 1)) fun w2 ll=>?_;obtain⟨q1,q2,q3⟩:=ra.o ll;have HQ:=Hd q3;clear q3 ll)
  all_goals
   go_wp2;go_ret;exact⟨zf8 (by rw[HE.o];simp),HQ.o⟩
def zdM(xs:List Bs):Bs:=Lib.join (xs.filter zfZ) [32]
def zyB(xs:List Bs):Nat:=(xs.map (fun x=>x.length+1)).sum
def zfC(xs:List Bs):(zdM xs).length<=zyB xs:=bC (zl9 _) (zf0 _ _)
def zD9(xs:List Bs):xs.length<=zyB xs:=by
 unfold zyB
 induction xs with
 | nil=>simp
 | cons a r ih=>simp only[bd,gB,az];omega
def zn4(v:Value)(sp:List Bs)(w:World)(hv:Strs w v sp)(hs:zyB sp<=100000000):Calls prog 166 #[v] w fun e w'=>e=.returned (.string (bs (zdM sp)))/\Kept w w':=by
 obtain⟨i0,hi,mr,mq,mm⟩:=cg Tryz.infoStr;have oR:Hi (zdM sp=Lib.join (sp.filter zfZ) [32]):=rfl;have mh:=zfC sp;have hsl:=zD9 sp;obtain⟨a,c,rfl,hc,h3⟩:=hv;have H3:=Hd h3;clear h3;go_in;go_wp2_with fail;simp only[zd8];go_loopw [3,8] (fun v i wr=>∃(k:Nat),k<=sp.length/\i=.int .i64 k/\wr.ownsRow w.heap.size 9 1 v ((sp.take k).filter zfZ).length (zaL ((sp.take k).filter zfZ))/\Kept w wr) (fun _ i _=>sp.length - (intOf i).toNat)
 .exact⟨0,ai _,rfl,dg _ _ _ _,af _⟩
 case round =>
  obtain⟨k,hkl,rfl,lc,ou⟩:=hrel;by_cases kV:k<sp.length
  .obtain⟨x,hx⟩:∃x,sp[k]? = some x:=⟨_,ac kV⟩;obtain⟨g,o,rfl,hg,mU⟩:=H3.o a_;have kR:wr.cell? ⟨g,o+k,none⟩=some (.string (bs x)):=(ou.cell (p:=⟨g,o+k,none⟩) hg).trans (mU k x hx);have HF:=Hd (zl8 sp k x hx);have hfl:=zrN sp k;generalize (sp.take k).filter zfZ=ws at *;have ny:w.heap.size<=wr.heap.size:=ou.size;have HR:=Hd ou;have HW:=Hd lc;clear ou hx lc mU;by_cases he:x=[]
   .subst he;go_wp2;go_roundw
    .exact⟨k+1,a_,by go_num,by rw[HF.o];simpa [zfZ]using HW.o,HR.o⟩
    .simp [intOf];omega
   .have lc:=HW.o;have xG:x.isEmpty=false:=(by simpa using he);go_wp2_with (at_builtin;refine cV _ rfl _ _ 37 rfl w.heap.size 9 i0 (.string ⟨#[]⟩) 1 16 dw hi mr mq mm rfl c_ _ _ _ rfl (lc.alloc _) ⟨wr.heap.size,0,none⟩ 1 1 [.string (bs x)] rfl rfl ?c1 ?c2 ?c3 ?c4 ?c5 ?_)
    case c1=>exact zbO _ #[.string (bs x)] _ _ b_
    case c2=>intro u hu;simp at hu;subst hu;rfl
    case c3=>unfold maxLen;omega
    case c4=>omega
    case c5=>simp;omega
    intro v' w2 lr lw _;have lx:=Hd ((HR.o.trans (zaA wr _)).trans' (za2 (lc.alloc _) lw e_));rw[<- zfX]at lr;have HO:=Hd lr;clear lr lw lc;go_wp2;go_roundw
    .exact⟨k+1,a_,by go_num,by rw[HF.o];simpa [zfZ,xG]using HO.o,lx.o⟩
    .simp [intOf];omega
  .have HW:=Hd (gU lc);have HR:=Hd ou;rw[bx a_]at HW;have hfl:(sp.filter zfZ).length<=sp.length:=fC _ _;clear lc ou;go_wp2_with fail;refine(zd9 _ _ _ _ HW.o a_ (by rw[<- oR.o];omega)).mono ?_;rintro e w2 ⟨rfl,ll⟩;go_wp2;go_ret;exact⟨zf8 oR.o.symm,HR.o.trans ll⟩
abbrev zmA(f g p s:Bs):Value:=.agg #[.string (bs f),.string (bs g),.string (bs p),.string (bs s)]
def zv6(w:World)(arr:Array Value)(xs:List Bs)(n:Nat)(hn:n=xs.length)(h:arr.toList=zaL xs)(e:TypeId)(g:Nat)(hg:g=w.heap.size):Strs (w.alloc (.cells arr e)) (.slice (some ⟨g,0,none⟩) n n) xs:=by
 subst hn hg;refine⟨_,_,rfl,aw _,fun _=>⟨w.heap.size,0,rfl,b_,fun j x hx=>?_⟩⟩;have:=zbO w arr e w.heap.size rfl j (.string (bs x)) (by rw[h];exact zhU xs j x hx);have e1:((⟨w.heap.size,0,none⟩:Addr).add j)=⟨w.heap.size,j,none⟩:=(by unfold Addr.add;split<;>simp_all);rw[e1]at this;rw[bP];exact this
def zEa(f g p s:Bs)(w:World)(h:zyB [g,p,f,s]<=100000000):Calls prog 153 #[zmA f g p s] w fun e w'=>e=.returned (.string (bs (zdM [g,p,f,s])))/\Kept w w':=by
 go_in;go_wp2_with fail;refine(zn4 _ [g,p,f,s] _ (zv6 _ _ _ _ rfl rfl _ _ b_) h).mono ?_;rintro e w1 ⟨rfl,hk⟩;go_wp2;go_ret;exact⟨rfl,((zaA _ _).trans (zaA _ _)).trans hk⟩
def zrO(f g p s:Bs)(w:World)(h:zyB [p,f]<=100000000):Calls prog 122 #[zmA f g p s] w fun e w'=>e=.returned (.string (bs (zdM [p,f])))/\Kept w w':=by
 go_in;go_wp2_with fail;refine(zn4 _ [p,f] _ (zv6 _ _ _ _ rfl rfl _ _ b_) h).mono ?_;rintro e w1 ⟨rfl,hk⟩;go_wp2;go_ret;exact⟨rfl,((zaA _ _).trans (zaA _ _)).trans hk⟩
def zGh:Bs:=[44,59,123,125]
def zKA:Bs:=[59,123,125]
def zc6(l:Bs):Bool:=zgN l && !(l.any (zbN zGh))&&(l==zlV l)
def zyC(l:Bs)(w:World):Calls prog 81 #[.string (bs l),.string (bs [10])] w fun e w'=>e=.returned (.bool (l.contains 10))/\w=w':=by
 refine(fQ (bs l) 10 w).mono ?_;rintro e w' ⟨rfl,rfl⟩;exact⟨zaY (za6 10 l),rfl⟩
def zEb(l:Bs)(w:World)(hs:l.length<=1000000000):Calls prog 162 #[.string (bs l)] w fun e w'=>e=.returned (.bool (zgN l))/\∃n,w'=w.drewN n:=by
 have HV:=Hd (fun w=>zlX (bs l) w hs);have HL:Hi (zgN l=(za9 (bs l) && !(l.contains 10))):=rfl;have HC:=Hd (fun w=>zyC l w);generalize za9 (bs l)=v at *;generalize l.contains 10=c at *;cases v
 .go_in;go_wp2_with fail;refine(HV.o _).mono ?_;rintro e w1 ⟨rfl,n,rfl⟩;go_wp2;go_ret;exact⟨zaY (by rw[HL.o];rfl),n,rfl⟩
 .go_in;go_wp2_with fail;refine(HV.o _).mono ?_;rintro e w1 ⟨rfl,n,rfl⟩;go_wp2_with fail;refine(HC.o _).mono ?_;rintro e w1 ⟨rfl,rfl⟩;cases c
  all_goals
   go_wp2;go_ret;exact⟨zaY (by rw[HL.o];rfl),n,rfl⟩
def zI7:Ascii zGh:=by intro b hb;unfold zGh at hb;simp at hb;rcases hb with rfl|rfl|rfl|rfl<;>decide
def zb9(l:Bs)(w:World)(hg:Gnd w)(hs:l.length<=100000000):Calls prog 117 #[.string (bs l)] w fun e w'=>e=.returned (.bool (zc6 l))/\Kept w w':=by
 have HV:=Hd (fun w=>zEb l w a_);have HC:=Hd (fun w=>zDT l zGh w zI7 c_ c_ a_);have HK:=Hd (fun w hg=>zA0 l w hg hs);have HL:Hi (zc6 l=(zgN l && !(l.any (zbN zGh))&&(l==zlV l))):=rfl;have HS:Hi (zGh=[44,59,123,125]):=rfl;generalize zgN l=v at *;generalize l.any (zbN zGh)=c at *;generalize zlV l=m at *;cases v
 .go_in;go_wp2_with fail;refine(HV.o _).mono ?_;rintro e w1 ⟨rfl,n,rfl⟩;go_wp2;go_ret;exact⟨zaY (by rw[HL.o];rfl),zaB _ _⟩
 .go_in;go_wp2_with fail;refine(HV.o _).mono ?_;rintro e w1 ⟨rfl,n,rfl⟩;have hg1:Gnd (w.drewN n):=hg;go_wp2_with fail;rw[<- HS.o];refine k_ (HC.o _) fun w1 ld=>?_;have hg2:=hg1.kept ld;have kT:=Hd ((zaB w n).trans ld);have HG2:=Hd hg2;clear ld hg2 hg1;cases c
  .go_wp2_with fail;refine k_ (HK.o _ HG2.o) fun w2 ll=>?_;have kX:=Hd (kT.o.trans ll);clear ll;go_wp2_with fail
   all_goals go_ret
   all_goals exact⟨zaY (by rw[HL.o];simp [*]),kX.o⟩
  .go_wp2;go_ret;exact⟨zaY (by rw[HL.o];rfl),kT.o⟩
end Go.Proofs.YtnldgmhdjancbaaGreatDoor
