/- Inverted of package person. Conditions: lengths. -/
import Derived.Test.YtmcoomlkbgiboaaGreatDoorV25
import Derived.Test.YtmcoomlkbgiboaaGreatDoorV24
import Derived.Test.YtmcoomlkbgiboaaGreatDoorV02
import Derived.Test.YtmcoomlkbgiboaaGreatDoorV09
import Derived.Test.YtmcoomlkbgiboaaGreatDoorV23
import Derived.Test.YtmcoomlkbgiboaaGreatDoorV22
import Derived.Test.YtmcoomlkbgiboaaGreatDoorV20
set_option linter.all false
set_option maxRecDepth 100000
set_option maxHeartbeats 6400000
namespace Go.Proofs.YtmcoomlkbgiboaaGreatDoor
open Go.RowKit
theorem zmE:∀ (l:Bs) (bg iw sm:Bool),(ini l bg iw sm).length<=6 * l.length
 | [],_,_,_=>by simp [ini]
 | b :: r,bg,iw,sm=>by
  rw[zdN];have h1:=zmE r true false sm;have h2:=zmE r true iw sm;have h3:=zmE r false true true;have h4:=zmE r false iw sm;have hp:(zbU (b :: r)).length<=5:=(by unfold zbU;have:=zk4 (dec (bs (b :: r)) 0).1;simp;omega);have hl:(if iw then [45] else if sm then [32] else ([]:Bs)).length<=1:=(by cases iw <;> cases sm <;> simp);simp only[List.length_cons]
  split
  ·omega
  split
  ·omega
  split
  ·simp only[List.length_append];omega
  ·omega
theorem ziR (g:Bs):(zb5 g).length<=6 * g.length:=by rw[zkE];exact zmE g _ _ _
def zeI (g:Bs) (i:Bool):Bs:=if i then zb5 g else g
def zz8 (f g p s:Bs) (i:Bool):Bs:=zbM [p,f] ++ (if zeI g i=[] then [] else [44,32] ++ zeI g i) ++ (if s=[] then [] else [44,32] ++ s)
theorem zkF (f g p s:Bs) (i:Bool) (w:World) (hs:f.length+g.length+p.length+s.length<=1000000) :
  Calls Tryz.prog 87 #[zh2 f g p s,.bool i] w fun e w'=>e=.returned (.string (bs (zz8 f g p s i)))/\Kept w w':=by
 have hbu:zlK [p,f]<=1000002:=(by simp [zlK];omega);have hsh:=zdH [p,f];have hin:=ziR g;have HL:Hid (zz8 f g p s i=zbM [p,f] ++ (if zeI g i=[] then [] else [44,32] ++ zeI g i) ++ (if s=[] then [] else [44,32] ++ s)):=rfl;have hgl:(zeI g i).length<=6000000:=(by unfold zeI;split <;> omega);have HS:=Hd (fun w=>zqA f g p s w (by omega));have HI:=Hd (fun w=>zrI f g p s w (by omega));have HGI:Hid (zeI g i=if i then zb5 g else g):=rfl;generalize zbM [p,f]=sh at *;generalize zb5 g=il at *;generalize zeI g i=gv at *;cases i
 ·obtain rfl:gv=g:=HGI.out;clear HGI;by_cases hg:gv=[] <;> by_cases hs':s=[]
  all_goals
   first|subst hg|(have hge:gv.isEmpty=false:=by simpa using hg)
   first|subst hs'|(have hse:s.isEmpty=false:=by simpa using hs')
   try simp only[List.length_nil,Nat.add_zero,Nat.zero_add] at hs
   go_enter Tryz.func87,Tryz.ntmps87;go_wp2_with fail;refine (HS.out _).mono ?_;rintro e w1 ⟨rfl,hk1⟩;obtain ⟨kc,kf⟩:=za9 hk1;have hz:w.heap.size<w1.heap.size:=(by have:=hk1.size;simp at this;omega);have HK:=Hd ((zaA w _).trans hk1);clear hk1;go_wp2_with fail;go_ret;exact ⟨zc6 (by rw[HL.out];simp [*]),HK.out⟩
 ·obtain rfl:gv=il:=HGI.out;clear HGI;by_cases hg:gv=[] <;> by_cases hs':s=[]
  all_goals
   first|subst hg|(have hge:gv.isEmpty=false:=by simpa using hg)
   first|subst hs'|(have hse:s.isEmpty=false:=by simpa using hs')
   try simp only[List.length_nil,Nat.add_zero,Nat.zero_add] at hs
   go_enter Tryz.func87,Tryz.ntmps87;go_wp2_with fail;refine (HI.out _).mono ?_;rintro e w1 ⟨rfl,hk1⟩;obtain ⟨kc,kf⟩:=za9 hk1;have hz:w.heap.size<w1.heap.size:=(by have:=hk1.size;simp at this;omega);have HK1:=Hd hk1;clear hk1;go_wp2_with fail;refine (HS.out _).mono ?_;rintro e w2 ⟨rfl,hk2⟩;have HK2:=Hd (HK1.out.trans hk2);clear kc kf hk2 hz;obtain ⟨kc,kf⟩:=za9 HK2.out;have hz:w.heap.size<w2.heap.size:=(by have:=HK2.out.size;simp at this;omega);have HK:=Hd ((zaA w _).trans HK2.out);go_wp2_with fail;go_ret;exact ⟨zc6 (by rw[HL.out];simp [*]),HK.out⟩
def zg6 (q:P4):Bs:=zz8 q.1 q.2.1 q.2.2.1 q.2.2.2 false
def zhA (s:SrcT):List P4:=if s.author=[] then s.editor else s.author
def zcX (s:SrcT):Bs:=Lib.join ((zhA s).map zg6) [44,32]
theorem ztH {ps:List P4} {k:Nat} {q:P4} (h:ps[k]? = some q):(ps.take (k+1)).map zg6=(ps.take k).map zg6 ++ [zg6 q]:=by
 rw[List.take_succ,h,List.map_append];rfl
theorem zrK (vA vE vF:Value) (s:SrcT) (w:World) (hA:Perss w vA s.author) (hE:Perss w vE s.editor) (hF:vF.oneCell'=true) (hl:(zhA s).length<=1000) (hq:∀ q∈zhA s,q.1.length+q.2.1.length+q.2.2.1.length+q.2.2.2.length<=1000000) (hj:(zcX s).length<=1000000000) :
  Calls Tryz.prog 36 #[zhK s.key s.type vA vE vF] w fun e w'=>e=.returned (.string (bs (zcX s)))/\Kept w w':=by
 obtain ⟨i0,hi,hz0,hz1,hz2⟩:=info_parts Tryz.infoStr;obtain ⟨aA,cA,rfl,lA⟩:=hA.shape;obtain ⟨aE,cE,rfl,lE⟩:=hE.shape;have HK0:=Hd (zaA w (.cells #[.string (bs s.key),.string (bs s.type),.slice aA s.author.length cA,.slice aE s.editor.length cE,vF] 50));have HB0:=Hd (Blk.new w 50 #[.string (bs s.key),.string (bs s.type),.slice aA s.author.length cA,.slice aE s.editor.length cE,vF]);obtain ⟨skey,styp,au,ed,fs⟩:=s;simp only at HK0 HB0 hA hE;by_cases hz:au=[]
 ·have HL:Hid (zhA ⟨skey,styp,au,ed,fs⟩=ed):=if_pos hz;rw[HL.out] at hl hq;have HJ:Hid (∀ v w',Strs w' v (ed.map zg6)->Calls Tryz.prog 88 #[v,.string (bs [44,32])] w' fun e w''=>e=.returned (.string (bs (zcX ⟨skey,styp,au,ed,fs⟩)))/\Kept w' w''):=fun v w' h=>by
   have:=zd3 v (ed.map zg6) [44,32] w' h (by rw[List.length_map];omega) (by unfold zcX at hj;rw[HL.out] at hj;exact hj);unfold zcX;rw[HL.out];exact this
  generalize zcX ⟨skey,styp,au,ed,fs⟩=R at *;subst hz;have HP:=Hd (hE.kept HK0.out);have HQ:=Hd hq;clear hA hE hq hj HL;go_enter Tryz.func36,Tryz.ntmps36;go_wp2_with fail;generalize w.alloc _=w1 at *;go_loopw [4,16] (fun o i wr=>∃ (k:Nat),k<=ed.length/\i=.int .i64 k/\Hid (OutG StrK 1 (fun _=>False) w1.heap.size 9 wr o ((ed.take k).map zg6))/\Hid (Kept w1 wr)) (fun _ i _=>ed.length - (intOf i).toNat)
  case atStart=>exact ⟨0,Nat.zero_le _,rfl,OutG.nil _ _ _ _ _ _,Kept.refl _⟩
  case round =>
   obtain ⟨k,hk,rfl,HGR,HKR⟩:=hrel;by_cases hlt:k<ed.length
   ·obtain ⟨q,hx⟩:∃ x,ed[k]? = some x:=⟨_,List.getElem?_eq_getElem hlt⟩;have hqs:=HQ.out q (List.mem_of_getElem? hx);have HT:=Hd (ztH hx);obtain ⟨g,o,rfl,hg,d0,d1,d2,d3⟩:=(HP.out.kept HKR.out).at_ k q hx;obtain ⟨us,HUS⟩:∃ us,Hid ((ed.take k).map zg6=us):=⟨_,rfl⟩;have hul:us.length<=1000:=(by rw[<- HUS.out,List.length_map,List.length_take];omega);rw[HUS.out] at HGR HT;obtain ⟨nm,HNM⟩:∃ nm,Hid (zg6 q=nm):=⟨_,rfl⟩;rw[HNM.out] at HT;obtain ⟨q1,q2,q3,q4⟩:=q;simp only at d0 d1 d2 d3 hqs;have HKI:=Hd (zaA wr (.cells #[.string (bs q1),.string (bs q2),.string (bs q3),.string (bs q4)] 77));have HIN:=Hd (zkF q1 q2 q3 q4 false (wr.alloc (.cells #[.string (bs q1),.string (bs q2),.string (bs q3),.string (bs q4)] 77)) (by omega));have HNM2:Hid (zz8 q1 q2 q3 q4 false=nm):=HNM.out;rw[HNM2.out] at HIN;clear hx HNM HNM2;go_wp2_with fail;refine HIN.out.mono ?_;rintro e w3 ⟨rfl,hk3⟩;have HK3:=Hd (HKI.out.trans hk3);have HG3:=Hd (HGR.out.kept zkO HK3.out);have HROW:=Hd (Blk.new w3 9 #[.string (bs nm)]);have HK6:=Hd (zaA w3 (.cells #[.string (bs nm)] 9));have HG6:=Hd (HG3.out.kept zkO HK6.out);obtain ⟨ar,cr,rfl,hcr,hmr⟩:=HGR.out.form;have hb6:w1.heap.size<=(w3.alloc (.cells #[.string (bs nm)] 9)).heap.size:=((HKR.out.trans HK3.out).trans HK6.out).size;clear hk3 HIN HG3 d0 d1 d2 d3;go_wp2_with (at_builtin;refine zkQ ?_);refine Hd ?_;refine zaS zkO rfl (.tmp 20) (.tmp 23) 29 rfl i0 _ 16 Tryz.underlying29 hi hz0 hz1 hz2 rfl (by omega) (by rfl) HG6.out _ [.string (bs nm)] nm (by rfl) (fun j u hu=>HROW.out.cell j u (by rw[<- Array.getElem?_toList];exact hu)) rfl rfl (by unfold maxLen;omega) (by omega) hb6 _ rfl ?_;intro g7 c7' w7 hout7 hgrow7 hat7 hlt7;have HOUT8:Hid (OutG StrK 1 (fun _=>False) w1.heap.size 9 w7 (.slice (some ⟨g7,0,none⟩) (us.length+1) c7') ((ed.take (k+1)).map zg6)):=(by rw[HT.out];exact hout7);have HK7:Hid (Kept w1 w7):=((HKR.out.trans HK3.out).trans HK6.out).trans' ((Only.grown hgrow7).below ((HKR.out.trans HK3.out).trans HK6.out).size (fun i q=>(HG6.out.blk i q.symm).1));clear hout7 hgrow7 hat7 HROW HK6 HG6 HK3 HKI HGR HKR HT HUS;go_wp2_with fail;go_roundw
    case rel=>exact ⟨k+1,by omega,by go_num,HOUT8.out,HK7.out⟩
    case measure=>simp [intOf];omega
   ·obtain rfl:k=ed.length:=(by omega);rw[List.take_length] at HGR;obtain ⟨ms,HMS⟩:∃ ms,Hid (ed.map zg6=ms):=⟨_,rfl⟩;rw[HMS.out] at HGR HJ;obtain ⟨ar,cr,rfl,hcr,hmr⟩:=HGR.out.form;have HJX:=Hd (HJ.out _ wr (Strs.outO HGR.out));have HKZ:=Hd (HK0.out.trans HKR.out);clear HGR HKR HJ;go_wp2_with fail;refine HJX.out.mono ?_;rintro e w8 ⟨rfl,hk8⟩;have HKY:=Hd (HKZ.out.trans hk8);clear hk8 HJX;go_wp2_with fail
    (try go_ret)
    exact ⟨rfl,HKY.out⟩
 ·have HL:Hid (zhA ⟨skey,styp,au,ed,fs⟩=au):=if_neg hz;rw[HL.out] at hl hq;have HJ:Hid (∀ v w',Strs w' v (au.map zg6)->Calls Tryz.prog 88 #[v,.string (bs [44,32])] w' fun e w''=>e=.returned (.string (bs (zcX ⟨skey,styp,au,ed,fs⟩)))/\Kept w' w''):=fun v w' h=>by
   have:=zd3 v (au.map zg6) [44,32] w' h (by rw[List.length_map];omega) (by unfold zcX at hj;rw[HL.out] at hj;exact hj);unfold zcX;rw[HL.out];exact this
  generalize zcX ⟨skey,styp,au,ed,fs⟩=R at *;have hnz:0<au.length:=by
     rcases Nat.eq_zero_or_pos au.length with e|e
     ·exact absurd (List.length_eq_zero_iff.1 e) hz
     ·exact e
  have hnz1:¬ au.length=0:=(by omega);have hnz2:decide ((au.length:Int)=0)=false:=decide_eq_false (by omega);clear hz;have HP:=Hd (hA.kept HK0.out);have HQ:=Hd hq;clear hA hE hq hj HL;go_enter Tryz.func36,Tryz.ntmps36;go_wp2_with fail;generalize w.alloc _=w1 at *;go_loopw [4,16] (fun o i wr=>∃ (k:Nat),k<=au.length/\i=.int .i64 k/\Hid (OutG StrK 1 (fun _=>False) w1.heap.size 9 wr o ((au.take k).map zg6))/\Hid (Kept w1 wr)) (fun _ i _=>au.length - (intOf i).toNat)
  case atStart=>exact ⟨0,Nat.zero_le _,rfl,OutG.nil _ _ _ _ _ _,Kept.refl _⟩
  case round =>
   obtain ⟨k,hk,rfl,HGR,HKR⟩:=hrel;by_cases hlt:k<au.length
   ·obtain ⟨q,hx⟩:∃ x,au[k]? = some x:=⟨_,List.getElem?_eq_getElem hlt⟩;have hqs:=HQ.out q (List.mem_of_getElem? hx);have HT:=Hd (ztH hx);obtain ⟨g,o,rfl,hg,d0,d1,d2,d3⟩:=(HP.out.kept HKR.out).at_ k q hx;obtain ⟨us,HUS⟩:∃ us,Hid ((au.take k).map zg6=us):=⟨_,rfl⟩;have hul:us.length<=1000:=(by rw[<- HUS.out,List.length_map,List.length_take];omega);rw[HUS.out] at HGR HT;obtain ⟨nm,HNM⟩:∃ nm,Hid (zg6 q=nm):=⟨_,rfl⟩;rw[HNM.out] at HT;obtain ⟨q1,q2,q3,q4⟩:=q;simp only at d0 d1 d2 d3 hqs;have HKI:=Hd (zaA wr (.cells #[.string (bs q1),.string (bs q2),.string (bs q3),.string (bs q4)] 77));have HIN:=Hd (zkF q1 q2 q3 q4 false (wr.alloc (.cells #[.string (bs q1),.string (bs q2),.string (bs q3),.string (bs q4)] 77)) (by omega));have HNM2:Hid (zz8 q1 q2 q3 q4 false=nm):=HNM.out;rw[HNM2.out] at HIN;clear hx HNM HNM2;go_wp2_with fail;refine HIN.out.mono ?_;rintro e w3 ⟨rfl,hk3⟩;have HK3:=Hd (HKI.out.trans hk3);have HG3:=Hd (HGR.out.kept zkO HK3.out);have HROW:=Hd (Blk.new w3 9 #[.string (bs nm)]);have HK6:=Hd (zaA w3 (.cells #[.string (bs nm)] 9));have HG6:=Hd (HG3.out.kept zkO HK6.out);obtain ⟨ar,cr,rfl,hcr,hmr⟩:=HGR.out.form;have hb6:w1.heap.size<=(w3.alloc (.cells #[.string (bs nm)] 9)).heap.size:=((HKR.out.trans HK3.out).trans HK6.out).size;clear hk3 HIN HG3 d0 d1 d2 d3;go_wp2_with (at_builtin;refine zkQ ?_);refine Hd ?_;refine zaS zkO rfl (.tmp 20) (.tmp 23) 29 rfl i0 _ 16 Tryz.underlying29 hi hz0 hz1 hz2 rfl (by omega) (by rfl) HG6.out _ [.string (bs nm)] nm (by rfl) (fun j u hu=>HROW.out.cell j u (by rw[<- Array.getElem?_toList];exact hu)) rfl rfl (by unfold maxLen;omega) (by omega) hb6 _ rfl ?_;intro g7 c7' w7 hout7 hgrow7 hat7 hlt7;have HOUT8:Hid (OutG StrK 1 (fun _=>False) w1.heap.size 9 w7 (.slice (some ⟨g7,0,none⟩) (us.length+1) c7') ((au.take (k+1)).map zg6)):=(by rw[HT.out];exact hout7);have HK7:Hid (Kept w1 w7):=((HKR.out.trans HK3.out).trans HK6.out).trans' ((Only.grown hgrow7).below ((HKR.out.trans HK3.out).trans HK6.out).size (fun i q=>(HG6.out.blk i q.symm).1));clear hout7 hgrow7 hat7 HROW HK6 HG6 HK3 HKI HGR HKR HT HUS;go_wp2_with fail;go_roundw
    case rel=>exact ⟨k+1,by omega,by go_num,HOUT8.out,HK7.out⟩
    case measure=>simp [intOf];omega
   ·obtain rfl:k=au.length:=(by omega);rw[List.take_length] at HGR;obtain ⟨ms,HMS⟩:∃ ms,Hid (au.map zg6=ms):=⟨_,rfl⟩;rw[HMS.out] at HGR HJ;obtain ⟨ar,cr,rfl,hcr,hmr⟩:=HGR.out.form;have HJX:=Hd (HJ.out _ wr (Strs.outO HGR.out));have HKZ:=Hd (HK0.out.trans HKR.out);clear HGR HKR HJ;go_wp2_with fail;refine HJX.out.mono ?_;rintro e w8 ⟨rfl,hk8⟩;have HKY:=Hd (HKZ.out.trans hk8);clear hk8 HJX;go_wp2_with fail
    (try go_ret)
    exact ⟨rfl,HKY.out⟩
def QK (Q:Exit->Act->World->Prop) (K:Act->World->Prop):Exit->Act->World->Prop
 | .normal,a,w=>K a w
 | e,a,w=>Q e a w
theorem zmF {P:Program} {ops:Array Oper} {Q:Exit->Act->World->Prop} {i:Nat} {o:Oper} {K:Act->World->Prop} {a:Act} {w:World} (ho:ops[i]? = some o) (h:wpList P ops (QK Q K) [o] a w):wpOp P ops Q i K a w:=by
 unfold wpOp;simp only[ho];unfold wpList at h;have hK:wpList P ops (QK Q K) []=K:=(by funext a w;rfl);rw[hK] at h;have hu:∀ r,o.upon P a K (QK Q K) r->o.upon P a K Q r:=by
  intro r hr;unfold Oper.upon at hr ⊢;revert hr
  split <;> exact fun h=>h
 split
 ·rename_i hw;rw[if_pos hw] at h;rcases h with h|⟨h1,h2⟩
  ·exact .inl (hu _ h)
  ·exact .inr ⟨h1,h2⟩
 ·rename_i hw;rw[if_neg hw] at h;exact h
theorem zCe {w:World} {base g n cap size:Nat} {e:TypeId} {xs:List Value} (h:w.ownsRow base e size (.slice (some ⟨g,0,none⟩) n cap) n xs) (o:Nat) (vs:List Value) (ho:o+vs.length<=n * size) :
  (w.setCells g o vs).ownsRow base e size (.slice (some ⟨g,0,none⟩) n cap) n (xs.take o ++ (vs ++ xs.drop (o+vs.length))):=by
 obtain ⟨hl,h⟩:=h;refine ⟨by rw[List.length_append,List.length_append,List.length_take,List.length_drop];omega,?_⟩;rcases h with ⟨hv,_⟩|⟨g',cap',cur,hv,hb,hg,hn,hm,hs,hx⟩
 ·cases hv
 ·obtain ⟨e1,_,e3⟩:=Value.slice.inj hv;obtain rfl:g=g':=(by cases e1;rfl);subst e3;have hsz:n * size<=cap * size:=Nat.mul_le_mul_right _ hn;refine .inr ⟨g,cap,_,rfl,hb,zuT (w:=w) (R:=g) (ty:=e) (old:=cur) hg o vs (by omega),hn,hm,?_,?_⟩
  ·unfold zEO;rw[List.size_toArray,List.length_append,List.length_append,List.length_take,List.length_drop,Array.length_toList];omega
  ·unfold zEO;have hll:cur.toList.length=cur.size:=Array.length_toList;show List.take (n * size) (cur.toList.take o ++ (vs ++ cur.toList.drop (o+vs.length)))=_;rw[<- hx,List.take_append,List.take_take,List.take_append,List.length_take,Nat.min_eq_left (show o<=cur.toList.length by omega),List.take_take,Nat.min_eq_right (show o<=n * size by omega),Nat.min_eq_left (show o<=n * size by omega),List.take_of_length_le (show vs.length<=n * size - o by omega),List.drop_take];rw[show n * size - o - vs.length=n * size - (o+vs.length) by omega]
theorem zu1 {k:Nat}:∀ (css:List (List Value)),(∀ cs∈css,cs.length=k)->∀ (j:Nat) (cs:List Value),j<css.length->cs.length=k ->
  (css.set j cs).flatten=css.flatten.take (j * k) ++ (cs ++ css.flatten.drop (j * k+cs.length))
 | [],_,_,_,h,_=>by cases h
 | c :: css,hl,0,cs,_,hc=>by
  have:=hl c (by simp);rw[List.set_cons_zero,List.flatten_cons,List.flatten_cons,Nat.zero_mul,List.take_zero,List.nil_append,Nat.zero_add,hc,<- this,List.drop_left]
 | c :: css,hl,j+1,cs,h,hc=>by
  have hk:=hl c (by simp);have ih:=zu1 css (fun x hx=>hl x (List.mem_cons_of_mem _ hx)) j cs (by simpa using h) hc;have a1:(c ++ css.flatten).take ((j+1) * k)=c ++ css.flatten.take (j * k):=by
   rw[show (j+1) * k=c.length+j * k by rw[hk,Nat.succ_mul];omega,List.take_length_add_append]
  have a2:(c ++ css.flatten).drop ((j+1) * k+cs.length)=css.flatten.drop (j * k+cs.length):=by
   rw[show (j+1) * k+cs.length=c.length+(j * k+cs.length) by rw[hk,Nat.succ_mul];omega,List.drop_length_add_append]
  rw[List.set_cons_succ,List.flatten_cons,List.flatten_cons,ih,a1,a2,List.append_assoc]
section
variable {α:Type} {R:(Nat->Prop)->World->List Value->α->Prop} {k:Nat} {A:Nat->Prop} {base:Nat} {e:TypeId} {w w':World} {v:Value} {xs:List α}
theorem OutG.at_ {a:Option Addr} {n cap:Nat} (h:OutG R k A base e w (.slice a n cap) xs) (j:Nat) (x:α) (hx:xs[j]? = some x):∃ g cs,a=some ⟨g,0,none⟩/\base<=g/\g<w.heap.size/\n=xs.length/\xs.length<=cap/\cs.length=k/\(∀ i u,cs[i]? = some u->w.cell? ⟨g,j * k+i,none⟩=some u)/\R (fun g'=>A g'/\g≠g') w cs x:=by
 obtain ⟨css,h1,h2,ho,h4⟩:=h;obtain ⟨a',c,hv,hc,_,h3⟩:=zaV ho;obtain ⟨rfl,rfl,rfl⟩:=Value.slice.inj hv;have hj:=(List.getElem?_eq_some_iff.1 hx).1;obtain ⟨g,rfl,hb,hg,hcell⟩:=h3 (by omega);have hcs:css[j]? = some (css[j]'(by omega)):=List.getElem?_eq_getElem (by omega);have hr:=h4 j _ x hcs hx;have hR:R (fun g'=>A g'/\g≠g') w (css[j]'(by omega)) x:=by
  have e1:(fun g'=>A g'/\(Value.slice (some ⟨g,0,none⟩) xs.length cap).ownBlock≠some g')=(fun g'=>A g'/\g≠g'):=by
   funext g';simp [Value.ownBlock]
  rw[<- e1];exact hr
 exact ⟨g,_,rfl,hb,hg,rfl,hc,h2 _ (List.getElem_mem _),fun i u hu=>hcell _ u (zo9 css h2 j _ hcs i u hu),hR⟩
theorem OutG.put {g n cap:Nat} (hR:ReadK R) (h:OutG R k A base e w (.slice (some ⟨g,0,none⟩) n cap) xs) (j:Nat) (hj:j<xs.length) (cs:List Value) (y:α) (hc:cs.length=k) (hy:R (fun g'=>A g'/\g≠g') w cs y) :
  OutG R k A base e (w.setCells g (j * k) cs) (.slice (some ⟨g,0,none⟩) n cap) (xs.set j y):=by
 obtain ⟨css,h1,h2,ho,h4⟩:=h;have hn:n=xs.length:=by
  obtain ⟨a',c,hv,_⟩:=zaV ho;exact (Value.slice.inj hv).2.1
 subst hn;have hl:j * k+cs.length<=xs.length * k:=by
  have:(j+1) * k<=xs.length * k:=Nat.mul_le_mul_right _ hj;rw[Nat.succ_mul] at this;omega
 have hsam:Sam (fun g'=>A g'/\g≠g') w (w.setCells g (j * k) cs):=Sam.only (zc2 cs (j * k) w) (fun g' _ hs q=>hs.2 q.symm);have e1:∀ c,(fun g'=>A g'/\(Value.slice (some ⟨g,0,none⟩) c cap).ownBlock≠some g')=(fun g'=>A g'/\g≠g'):=by
  intro c;funext g';simp [Value.ownBlock]
 refine ⟨css.set j cs,by simp [h1],fun c hcs=>?_,?_,fun i c x hci hx=>?_⟩
 ·rcases List.mem_or_eq_of_mem_set hcs with q|q
  ·exact h2 c q
  ·rw[q];exact hc
 ·rw[zu1 css h2 j cs (by omega) hc,List.length_set];exact zCe ho (j * k) cs hl
 ·rw[e1];by_cases q:j=i
  ·subst q;rw[List.getElem?_set_self (by omega)] at hci;rw[List.getElem?_set_self hj] at hx;cases hci;cases hx;exact hR.sam hy hsam (fun _ _ h=>h)
  ·rw[List.getElem?_set_ne q] at hci hx;have:=h4 i c x hci hx;rw[e1] at this;exact hR.sam this hsam (fun _ _ h=>h)
theorem OutG.there {g n cap:Nat} (h:OutG R k A base e w (.slice (some ⟨g,0,none⟩) n cap) xs) (j:Nat) (hj:j<xs.length):w.there g (j * k) k:=by
 obtain ⟨css,h1,h2,ho,h4⟩:=h;obtain ⟨hl,h⟩:=ho;rcases h with ⟨hv,_⟩|⟨g',cap',cur,hv,hb,hg,hn,hm,hs,hx⟩
 ·cases hv
 ·obtain ⟨e1,e2,e3⟩:=Value.slice.inj hv;obtain rfl:g=g':=(by cases e1;rfl);have hB:Blk w g e cur:=hg;have h1:(j+1) * k<=cap' * k:=Nat.mul_le_mul_right _ (by omega);rw[Nat.succ_mul] at h1;exact fun i hi=>⟨by rw[hB.cell (j * k+i) (cur[j * k+i]'(by omega)) (by rw[Array.getElem?_eq_getElem])];rfl,hB.free _⟩
theorem zd0 {P:Program} (hR:ReadK R) {ops:Array Oper} {rest:List Oper} {o:Oper} {a:Act} {Q:Exit->Act->World->Prop} (hgd:o.guard=none) (x y:Operand) (ho:o.op=.store e x y)
  {g n cap:Nat} (h0:OutG R k A base e w (.slice (some ⟨g,0,none⟩) n cap) xs) (j:Nat) (hj:j<xs.length) (cs:List Value) (z:α) (hx:a.eval x=.pointer (some ⟨g,j * k,none⟩)) (hy:a.eval y=.agg cs.toArray) (hc:cs.length=k) (hi:(P.info? e).map (·.size)=some k)
  (hz:R (fun g'=>A g'/\g≠g') w cs z)
  (h:∀ w',OutG R k A base e w' (.slice (some ⟨g,0,none⟩) n cap) (xs.set j z)->Only (fun i=>i=g) w w'->wpList P ops Q rest (a.put o.dst undef) w'):wpList P ops Q (o :: rest) a w:=by
 have ht:=h0.there j hj;refine wpList_store_mid hgd e x y ho g (j * k) cs.toArray hx hy ?_ ?_ (all_oneCell_toArray (hR.one hz)) (h _ ?_ ?_)
 ·rw[List.size_toArray,hc];exact ht
 ·rw[List.size_toArray,hc];exact hi
 ·exact OutG.put hR h0 j hj cs z hc hz
 ·exact zc2 _ _ _
end
def zGa (ps:List Pr) (k:Bs):Option Bs:=(ps.find? fun q=>q.1 == k).map (·.2)
mutual
def zgI:Inl->Bs
 | .mk kind text dest _ _ _ _ _ _ kids =>
  if kind=1\/kind=4\/kind=5 then text else if kind=2\/kind=3 then [32] else if 6<=kind/\kind<=11 then zaX kids else if kind=16 then dest else []
def zaX:List Inl->Bs
 | []=>[]
 | x :: xs=>zgI x ++ zaX xs
end
mutual
def zwI:Inl->List Inl
 | .mk kind text dest title id cls prs args cits kids=>.mk kind text dest title id cls prs args cits kids :: zb6 kids
def zb6:List Inl->List Inl
 | []=>[]
 | x :: xs=>zwI x ++ zb6 xs
end
mutual
def zwJ:Blo->List Inl
 | .mk _ _ _ _ _ _ _ _ _ line kids=>zb6 line ++ zbX kids
def zbX:List Blo->List Inl
 | []=>[]
 | x :: xs=>zwJ x ++ zbX xs
end
theorem zCf (x:Inl):zwI x=x :: zb6 x.kids:=by cases x;rfl
theorem zCg (b:Blo):zwJ b=zb6 b.line ++ zbX b.kids:=by cases b;rfl
theorem zgJ (x:Inl):zgI x=if x.kind=1\/x.kind=4\/x.kind=5 then x.text else if x.kind=2\/x.kind=3 then [32] else if 6<=x.kind/\x.kind<=11 then zaX x.kids else if x.kind=16 then x.dest else []:=by cases x;rfl
theorem zrL (xs ys:List Inl):zb6 (xs ++ ys)=zb6 xs ++ zb6 ys:=by
 induction xs with
 | nil=>rfl
 | cons x xs ih=>show zwI x ++ zb6 (xs ++ ys)=_;rw[ih];show _=(zwI x ++ zb6 xs) ++ _;rw[List.append_assoc]
theorem zfE (xs ys:List Inl):zaX (xs ++ ys)=zaX xs ++ zaX ys:=by
 induction xs with
 | nil=>rfl
 | cons x xs ih=>show zgI x ++ zaX (xs ++ ys)=_;rw[ih];show _=(zgI x ++ zaX xs) ++ _;rw[List.append_assoc]
theorem zrM (xs ys:List Blo):zbX (xs ++ ys)=zbX xs ++ zbX ys:=by
 induction xs with
 | nil=>rfl
 | cons x xs ih=>show zwJ x ++ zbX (xs ++ ys)=_;rw[ih];show _=(zwJ x ++ zbX xs) ++ _;rw[List.append_assoc]
theorem zgK {α:Type} {xs:List α} {k:Nat} {x:α} (h:xs[k]? = some x):xs.take (k+1)=xs.take k ++ [x]:=by
 obtain ⟨hk,rfl⟩:=List.getElem?_eq_some_iff.1 h;exact List.take_succ_eq_append_getElem hk
end Go.Proofs.YtmcoomlkbgiboaaGreatDoor
