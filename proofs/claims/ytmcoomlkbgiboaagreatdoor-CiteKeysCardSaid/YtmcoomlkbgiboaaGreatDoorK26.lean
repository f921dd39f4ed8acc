/- Check of style. Conditions: lengths. -/
import Derived.Test.YtmcoomlkbgiboaaGreatDoorK25
import Derived.Test.YtmcoomlkbgiboaaGreatDoorK01
import Derived.Lib.Fields

set_option linter.all false
namespace Go.Proofs.YtmcoomlkbgiboaaGreatDoor
open Go.RowKit

def nameSet:Bs:=[48,49,50,51,52,53,54,55,56,57,45]
/-- The error of a style. -/
def styE (y:StyT):Int :=
 if 128<y.entries.length then 3
 else if smallB y.name 60 nameSet=false then 6
 else if srtE y.sort≠0 then srtE y.sort
 else if citE y≠0 then citE y
 else if lnB y.between=false∨lnB y.begin_=false∨lnB y.end_=false then 17
 else if y.most<1∨32<y.most then 9
 else entE y.entries
set_option maxRecDepth 100000 in
set_option maxHeartbeats 6400000 in
theorem scheck_any (vE:Value) (y:StyT) (w:World) (hg:Gnd w) (hs:SmallY y) (hv:Prs w vE y.entries):Calls Tryz.prog 34 #[styV vE y] w fun e w'=>e=.returned (.int .i64 (styE y))∧Kept w w':=by
 have HG:=Lib.hid hg
 have HV:=Lib.hid hv
 have HSM:=Lib.hid hs
 obtain ⟨s1,s2,s3,s4,s5,s6,s7,s8,s9⟩:=hs
 have H1:=Lib.hid (fun w=>ssmall_any y.name nameSet 60 w (by omega))
 have H2:=Lib.hid (fun w h=>ssort_any y.sort w h s2)
 have H3:=Lib.hid (fun w h=>scite_any vE y w h HSM.out)
 have H4:=Lib.hid (fun w=>sline_any y.between w (by omega))
 have H5:=Lib.hid (fun w=>sline_any y.begin_ w (by omega))
 have H6:=Lib.hid (fun w=>sline_any y.end_ w (by omega))
 have H7:=Lib.hid (fun w h h'=>sents_any vE y.entries w h h' (by omega) s9)
 have HE:Hid (styE y=if 128<y.entries.length then 3 else if smallB y.name 60 nameSet=false then 6 else if srtE y.sort≠0 then srtE y.sort else if citE y≠0 then citE y else if lnB y.between=false∨lnB y.begin_=false∨lnB y.end_=false then 17 else if y.most<1∨32<y.most then 9 else entE y.entries):=rfl
 obtain ⟨aE,cE,rfl,lE⟩:=hv.form
 generalize styE y=R at *
 generalize smallB y.name 60 nameSet=b1 at *
 generalize srtE y.sort=e2 at *
 generalize citE y=e3 at *
 generalize lnB y.between=b4 at *
 generalize lnB y.begin_=b5 at *
 generalize lnB y.end_=b6 at *
 generalize entE y.entries=e7 at *
 clear hg hv s9
 unfold styV styCells at H3 ⊢
 have HK0:=Lib.hid (kept_alloc w (.cells (styCells (.slice aE y.entries.length cE) y) 33))
 have HB0:=Lib.hid (Blk.new w 33 (styCells (.slice aE y.entries.length cE) y))
 unfold styCells at HK0 HB0
 by_cases h1:128<y.entries.length
 ·rw [if_pos h1] at HE
  go_enter Tryz.func34,Tryz.ntmps34
  go_wp2_with fail
  go_ret
  exact ⟨ret_int HE.out.symm,HK0.out⟩
 rw [if_neg h1] at HE
 go_enter Tryz.func34,Tryz.ntmps34
 go_wp2_with fail
 generalize w.alloc _=w0 at *
 generalize w.heap.size=B at *
 have HCC:Hid (∀ w',Kept w0 w'→Blk w' B 33 #[.string (bs y.name),.bool y.numeric,.string (bs y.sort),.string (bs y.cite),.string (bs y.bare),.string (bs y.between),.string (bs y.begin_),.string (bs y.end_),.int .i64 y.most,.slice aE y.entries.length cE]):=fun w' h=>HB0.out.kept h
 refine (H1.out _).mono ?_
 rintro e w1 ⟨rfl,hk⟩
 have K1:=Lib.hid hk
 clear hk
 cases b1 with
 | false =>
  rw [if_pos rfl] at HE
  go_wp2_with fail
  go_ret
  exact ⟨ret_int HE.out.symm,HK0.out.trans K1.out⟩
 | true =>
 rw [if_neg (by simp)] at HE
 have t2:w1.cell? ⟨B,2,none⟩=some (.string (bs y.sort)):=(HCC.out _ K1.out).cell 2 _ rfl
 have z1:=(HCC.out _ K1.out).lt
 go_wp2_with fail
 refine (H2.out _ (HG.out.kept (HK0.out.trans K1.out))).mono ?_
 rintro e w2 ⟨rfl,hk⟩
 have K2:=Lib.hid (K1.out.trans hk)
 clear hk t2 z1 K1
 by_cases h2:e2=0
 case neg =>
  rw [if_pos h2] at HE
  have h2':(e2 == 0)=false:=by simpa using h2
  go_wp2_with fail
  go_ret
  exact ⟨ret_int HE.out.symm,HK0.out.trans K2.out⟩
 subst h2
 rw [if_neg (by simp)] at HE
 have t0:w2.cell? ⟨B,0,none⟩=some (.string (bs y.name)):=(HCC.out _ K2.out).cell 0 _ rfl
 have t1:w2.cell? ⟨B,1,none⟩=some (.bool y.numeric):=(HCC.out _ K2.out).cell 1 _ rfl
 have t2:w2.cell? ⟨B,2,none⟩=some (.string (bs y.sort)):=(HCC.out _ K2.out).cell 2 _ rfl
 have t3:w2.cell? ⟨B,3,none⟩=some (.string (bs y.cite)):=(HCC.out _ K2.out).cell 3 _ rfl
 have t4:w2.cell? ⟨B,4,none⟩=some (.string (bs y.bare)):=(HCC.out _ K2.out).cell 4 _ rfl
 have t5:w2.cell? ⟨B,5,none⟩=some (.string (bs y.between)):=(HCC.out _ K2.out).cell 5 _ rfl
 have t6:w2.cell? ⟨B,6,none⟩=some (.string (bs y.begin_)):=(HCC.out _ K2.out).cell 6 _ rfl
 have t7:w2.cell? ⟨B,7,none⟩=some (.string (bs y.end_)):=(HCC.out _ K2.out).cell 7 _ rfl
 have t8:w2.cell? ⟨B,8,none⟩=some (.int .i64 y.most):=(HCC.out _ K2.out).cell 8 _ rfl
 have t9:w2.cell? ⟨B,9,none⟩=some (.slice aE y.entries.length cE):=(HCC.out _ K2.out).cell 9 _ rfl
 have z1:=(HCC.out _ K2.out).lt
 go_wp2_with fail
 refine (H3.out _ (HG.out.kept (HK0.out.trans K2.out))).mono ?_
 rintro e w3 ⟨rfl,hk⟩
 have K3:=Lib.hid (K2.out.trans hk)
 clear hk t0 t1 t2 t3 t4 t5 t6 t7 t8 t9 z1 K2
 by_cases h3:e3=0
 case neg =>
  rw [if_pos h3] at HE
  have h3':(e3 == 0)=false:=by simpa using h3
  go_wp2_with fail
  go_ret
  exact ⟨ret_int HE.out.symm,HK0.out.trans K3.out⟩
 subst h3
 rw [if_neg (by simp)] at HE
 have t5:w3.cell? ⟨B,5,none⟩=some (.string (bs y.between)):=(HCC.out _ K3.out).cell 5 _ rfl
 have z1:=(HCC.out _ K3.out).lt
 go_wp2_with fail
 refine (H4.out _).mono ?_
 rintro e w4 ⟨rfl,hk⟩
 have K4:=Lib.hid (K3.out.trans hk)
 clear hk t5 z1 K3
 cases b4 with
 | false =>
  rw [if_pos (.inl rfl)] at HE
  go_wp2_with fail
  go_ret
  exact ⟨ret_int HE.out.symm,HK0.out.trans K4.out⟩
 | true =>
 have t6:w4.cell? ⟨B,6,none⟩=some (.string (bs y.begin_)):=(HCC.out _ K4.out).cell 6 _ rfl
 have z1:=(HCC.out _ K4.out).lt
 go_wp2_with fail
 refine (H5.out _).mono ?_
 rintro e w5 ⟨rfl,hk⟩
 have K5:=Lib.hid (K4.out.trans hk)
 clear hk t6 z1 K4
 cases b5 with
 | false =>
  rw [if_pos (.inr (.inl rfl))] at HE
  go_wp2_with fail
  go_ret
  exact ⟨ret_int HE.out.symm,HK0.out.trans K5.out⟩
 | true =>
 have t7:w5.cell? ⟨B,7,none⟩=some (.string (bs y.end_)):=(HCC.out _ K5.out).cell 7 _ rfl
 have z1:=(HCC.out _ K5.out).lt
 go_wp2_with fail
 refine (H6.out _).mono ?_
 rintro e w6 ⟨rfl,hk⟩
 have K6:=Lib.hid (K5.out.trans hk)
 clear hk t7 z1 K5
 cases b6 with
 | false =>
  rw [if_pos (.inr (.inr rfl))] at HE
  go_wp2_with fail
  go_ret
  exact ⟨ret_int HE.out.symm,HK0.out.trans K6.out⟩
 | true =>
 rw [if_neg (by simp)] at HE
 have t8:w6.cell? ⟨B,8,none⟩=some (.int .i64 y.most):=(HCC.out _ K6.out).cell 8 _ rfl
 have t9:w6.cell? ⟨B,9,none⟩=some (.slice aE y.entries.length cE):=(HCC.out _ K6.out).cell 9 _ rfl
 have z1:=(HCC.out _ K6.out).lt
 by_cases h8:y.most<1
 ·rw [if_pos (.inl h8)] at HE
  go_wp2_with fail
  go_ret
  exact ⟨ret_int HE.out.symm,HK0.out.trans K6.out⟩
 by_cases h9:32<y.most
 ·rw [if_pos (.inr h9)] at HE
  go_wp2_with fail
  go_ret
  exact ⟨ret_int HE.out.symm,HK0.out.trans K6.out⟩
 rw [if_neg (fun q=>q.elim h8 h9)] at HE
 go_wp2_with fail
 refine (H7.out _ (HG.out.kept (HK0.out.trans K6.out)) (HV.out.kept (HK0.out.trans K6.out))).mono ?_
 rintro e w7 ⟨rfl,hk⟩
 have K7:=Lib.hid (K6.out.trans hk)
 clear hk
 go_wp2_with fail
 go_ret
 exact ⟨ret_int HE.out.symm,HK0.out.trans K7.out⟩
end Go.Proofs.YtmcoomlkbgiboaaGreatDoor

/- Words between single spaces: strings.Fields finds the pieces. Conditions: the pieces are not empty, and bear no other white space. -/
set_option linter.all false
namespace Go.Proofs.YtmcoomlkbgiboaaGreatDoor
open Go.RowKit

theorem fields_fold:∀ (l cur:Bs),(∀ b∈l,Lib.isSp b=(b == 32))→Lib.fieldsGo cur l=((l.foldl (stepC 32) ([],cur)).1 ++ [(l.foldl (stepC 32) ([],cur)).2]).filter (fun x=>!x.isEmpty)
 | [],cur,_=>by
  show (if cur.isEmpty then [] else [cur])=[cur].filter _
  cases cur <;> rfl
 | b :: l,cur,h=>by
  have hb:=h b (List.mem_cons_self ..)
  have ih:=fun c=>fields_fold l c (fun x hx=>h x (List.mem_cons_of_mem _ hx))
  show (if Lib.isSp b then (if cur.isEmpty then Lib.fieldsGo [] l else cur :: Lib.fieldsGo [] l) else Lib.fieldsGo (cur ++ [b]) l)=_
  rw [hb,List.foldl_cons]
  by_cases q:b=32
  ·have e:stepC 32 (([]:List Bs),cur) b=([cur],[]):=by subst q; rfl
   rw [if_pos (by simpa using q),e,fold_from]
   show _=(cur :: ((l.foldl (stepC 32) ([],[])).1 ++ [(l.foldl (stepC 32) ([],[])).2])).filter _
   rw [List.filter_cons,ih []]
   cases cur <;> rfl
  ·have e:stepC 32 (([]:List Bs),cur) b=([],cur ++ [b]):=by unfold stepC; simp [q]
   rw [if_neg (by simpa using q),e,ih]
theorem fields_split (l:Bs) (hb:∀ b∈l,Lib.isSp b=(b == 32)) (hn:∀ x∈splitC 32 l,x≠[]):Lib.fields l=splitC 32 l:=by
 unfold Lib.fields
 rw [fields_fold l [] hb]
 show (splitC 32 l).filter _=_
 rw [List.filter_eq_self]
 intro x hx
 have:=hn x hx
 cases x with
 | nil=>exact absurd rfl this
 | cons a x=>rfl
theorem cover_fold:∀ (l cur:Bs) (b:UInt8),b∈cur ++ l→b=32∨∃ x∈(l.foldl (stepC 32) ([],cur)).1 ++ [(l.foldl (stepC 32) ([],cur)).2],b∈x
 | [],cur,b,h=>.inr ⟨cur,by simp,by simpa using h⟩
 | c :: l,cur,b,h=>by
  rw [List.foldl_cons]
  by_cases q:c=32
  ·have e:stepC 32 (([]:List Bs),cur) c=([cur],[]):=by subst q; rfl
   rw [e,fold_from]
   rcases List.mem_append.1 h with r | r
   ·exact .inr ⟨cur,by simp,r⟩
   ·rcases List.mem_cons.1 r with r | r
    ·exact .inl (r.trans q)
    ·rcases cover_fold l [] b (by simpa using r) with k | ⟨x,k1,k2⟩
     ·exact .inl k
     ·refine .inr ⟨x,?_,k2⟩
      rw [List.mem_append] at k1 ⊢
      rcases k1 with k1 | k1
      ·exact .inl (List.mem_append.2 (.inr k1))
      ·exact .inr k1
  ·have e:stepC 32 (([]:List Bs),cur) c=([],cur ++ [c]):=by unfold stepC; simp [q]
   rw [e]
   exact cover_fold l (cur ++ [c]) b (by simpa using h)
theorem cover_split (l:Bs) (b:UInt8) (h:b∈l):b=32∨∃ x∈splitC 32 l,b∈x:=cover_fold l [] b (by simpa using h)
end Go.Proofs.YtmcoomlkbgiboaaGreatDoor

/- The parts of a template as the reference has them, in plain Lean: each byte of a text a part of its own. No condition. -/
set_option linter.all false
namespace Go.Proofs.YtmcoomlkbgiboaaGreatDoor
open Go.RowKit

theorem runN_out {b:UInt8} {r:Bs} (h:inSet spSet b=false):runN (b :: r)=runN r+1:=by
 have hge:=Lib.indexAny_ge spSet r
 unfold inSet at h
 unfold runN
 rw [Lib.indexAny,h]
 simp only [Bool.false_eq_true,if_false,List.length_cons]
 by_cases q:Lib.indexAny r spSet = -1
 ·rw [q]; rfl
 ·have q':(Lib.indexAny r spSet == -1)=false:=by rw [beq_eq_false_iff_ne]; exact q
  rw [q']
  simp only [Bool.false_eq_true,if_false]
  rw [if_neg (by omega),if_neg (by omega)]; omega
theorem runN_le (r:Bs):runN r≤r.length:=by
 unfold runN
 split
 ·exact Nat.le_refl _
 ·have:=indexAny_lt spSet r; omega
/-- What is known of the pieces of a template: texts are not empty, fields are small words. -/
theorem splP_pcs:∀ (f:Nat) (r:Bs) (G g:Nat) (l:List Pc),splP f r G g=some l→∀ p∈l,0<p.txt.length∧p.txt.length≤r.length∧(p.fld=true→smallB p.txt 20 []=true)∧(p.fld=false→∃ k n,p.txt=(r.drop k).take n)
 | 0,_,_,_,_,h=>by cases h
 | f+1,[],G,g,l,h=>by
  rw [splP_end] at h
  split at h
  ·cases h; intro p hp; cases hp
  ·cases h
 | f+1,b :: r,G,g,l,h=>by
  cases hin:inSet spSet b with
  | false =>
   rw [splP_run _ _ _ hin,Option.map_eq_some_iff] at h
   obtain ⟨l',h1,rfl⟩:=h
   have hr:=runN_out (r:=r) hin
   have hl:=runN_le (b :: r)
   intro p hp
   rcases List.mem_cons.1 hp with rfl | hp
   ·refine ⟨by rw [List.length_take]; simp only [List.length_cons]; omega,by rw [List.length_take]; omega,(fun q=>by cases q),fun _=>⟨0,runN (b :: r),by simp⟩⟩
   ·obtain ⟨a1,a2,a3,a4⟩:=splP_pcs f _ G g l' h1 p hp
    refine ⟨a1,by rw [List.length_drop] at a2; omega,a3,fun q=>?_⟩
    obtain ⟨k,n,e⟩:=a4 q
    exact ⟨runN (b :: r)+k,n,by rw [e,List.drop_drop]⟩
  | true =>
   rcases spSet_cases hin with rfl | rfl | rfl | rfl
   ·rw [splP_fld] at h
    split at h
    ·rename_i hc
     rw [Option.map_eq_some_iff] at h
     obtain ⟨l',h1,rfl⟩:=h
     intro p hp
     rcases List.mem_cons.1 hp with rfl | hp
     ·refine ⟨?_,by rw [List.length_take]; simp only [List.length_cons]; omega,fun _=>hc.2,fun q=>by cases q⟩
      have h2:=hc.2
      unfold smallB at h2
      rw [Bool.and_eq_true] at h2
      have:=of_decide_eq_true h2.1
      simp at this ⊢; omega
     ·obtain ⟨a1,a2,a3,a4⟩:=splP_pcs f _ G g l' h1 p hp
      refine ⟨a1,by rw [List.length_drop] at a2; simp only [List.length_cons]; omega,a3,fun q=>?_⟩
      obtain ⟨k,n,e⟩:=a4 q
      exact ⟨before 125 r+1+1+k,n,by rw [e,List.drop_drop,show before 125 r+1+1+k=(before 125 r+1+k)+1 by omega,List.drop_succ_cons]⟩
    ·cases h
   ·rw [splP_bad] at h; cases h
   ·rw [splP_open] at h
    split at h
    ·intro p hp
     obtain ⟨a1,a2,a3,a4⟩:=splP_pcs f _ _ _ l h p hp
     refine ⟨a1,by simp only [List.length_cons]; omega,a3,fun q=>?_⟩
     obtain ⟨k,n,e⟩:=a4 q
     exact ⟨k+1,n,by rw [e,List.drop_succ_cons]⟩
    ·cases h
   ·rw [splP_shut] at h
    split at h
    ·cases h
    ·intro p hp
     obtain ⟨a1,a2,a3,a4⟩:=splP_pcs f _ _ _ l h p hp
     refine ⟨a1,by simp only [List.length_cons]; omega,a3,fun q=>?_⟩
     obtain ⟨k,n,e⟩:=a4 q
     exact ⟨k+1,n,by rw [e,List.drop_succ_cons]⟩
theorem splT_pcs {t:Bs} {l:List Pc} (h:splT t=some l):∀ p∈l,0<p.txt.length∧p.txt.length≤t.length∧(p.fld=true→smallB p.txt 20 []=true)∧(p.fld=false→∃ k n,p.txt=(t.drop k).take n) :=
 splP_pcs _ t 0 0 l h
theorem splL_pcs {t:Bs}:∀ p∈splL t,0<p.txt.length∧p.txt.length≤t.length∧(p.fld=true→smallB p.txt 20 []=true):=by
 intro p hp
 unfold splL at hp
 split at hp
 ·cases h:splT t with
  | none=>rw [h] at hp; cases hp
  | some l =>
   rw [h] at hp
   obtain ⟨a,b,c,_⟩:=splT_pcs h p hp
   exact ⟨a,b,c⟩
 ·cases hp
/-- The groups in which a field has no value. -/
def dropG (ps:List Pc) (val:Bs→Bs):List Int:=(ps.filter fun p=>p.fld && (!(p.grp == 0) && (val p.txt == []))).map fun p=>(p.grp:Int)
/-- What a piece brings. -/
def fillP (val:Bs→Bs) (ds:List Int) (p:Pc):Bs:=if ds.contains (p.grp:Int)=true then [] else if p.fld=true then val p.txt else p.txt
/-- A template filled. -/
def fillB (ps:List Pc) (val:Bs→Bs):Bs:=ps.flatMap (fillP val (dropG ps val))
end Go.Proofs.YtmcoomlkbgiboaaGreatDoor

/- heads and Builtin of style. No condition. -/
set_option linter.all false
namespace Go.Proofs.YtmcoomlkbgiboaaGreatDoor
open Go.RowKit

def dateYE:List Pr:=[([42],[123,97,117,116,104,111,114,115,125,32,40,123,121,101,97,114,125,123,115,117,102,102,105,120,125,41,46,32,123,116,105,116,108,101,125,46,91,32,123,112,117,98,108,105,115,104,101,114,125,46,93]),([97,114,116,105,99,108,101],[123,97,117,116,104,111,114,115,125,32,40,123,121,101,97,114,125,123,115,117,102,102,105,120,125,41,46,32,123,116,105,116,108,101,125,46,32,123,106,111,117,114,110,97,108,125,91,32,123,118,111,108,117,109,101,125,93,91,44,32,123,112,97,103,101,115,125,93,46])]
def dateY:StyT:=⟨[97,117,116,104,111,114,45,100,97,116,101],false,[97,117,116,104,111,114,32,121,101,97,114,32,116,105,116,108,101,32,107,101,121],[123,97,117,116,104,111,114,125,32,123,121,101,97,114,125,123,115,117,102,102,105,120,125],[123,121,101,97,114,125,123,115,117,102,102,105,120,125],[59,32],[40],[41],2,dateYE⟩
def numYE:List Pr:=[([42],[123,110,117,109,98,101,114,125,46,32,123,97,117,116,104,111,114,115,125,46,32,123,116,105,116,108,101,125,91,44,32,123,121,101,97,114,125,93,46]),([97,114,116,105,99,108,101],[123,110,117,109,98,101,114,125,46,32,123,97,117,116,104,111,114,115,125,46,32,123,116,105,116,108,101,125,46,32,123,106,111,117,114,110,97,108,125,91,32,123,118,111,108,117,109,101,125,93,91,44,32,123,121,101,97,114,125,93,91,44,32,123,112,97,103,101,115,125,93,46])]
def numY:StyT:=⟨[110,117,109,101,114,105,99],true,[],[123,110,117,109,98,101,114,125],[123,110,117,109,98,101,114,125],[44,32],[91],[93],3,numYE⟩
def zeroY:StyT:=⟨[],false,[],[],[],[],[],[],0,[]⟩
/-- The style that is built in under a name. -/
def bltY (n:Bs):Option StyT:=if n=dateY.name then some dateY else if n=numY.name then some numY else none
/-- A style that a call gives back. -/
def StyP (o:Option StyT) (w:World) (e:Ending) (w':World):Prop:=∃ vE,e=.returned (.tuple #[styV vE (o.getD zeroY),.bool o.isSome])∧Prs w' vE (o.getD zeroY).entries∧Kept w w'
theorem prs_two (w:World) (p q:Pr):Prs (w.alloc (.cells #[.string (bs p.1),.string (bs p.2),.string (bs q.1),.string (bs q.2)] 62)) (.slice (some ⟨w.heap.size,0,none⟩) 2 2) [p,q]:=by
 refine ⟨_,_,rfl,Nat.le_refl _,fun _=>⟨w.heap.size,0,rfl,by simp,fun j x hx=>?_⟩⟩
 have hb:=Blk.new w 62 #[.string (bs p.1),.string (bs p.2),.string (bs q.1),.string (bs q.2)]
 match j with
 | 0=>cases hx; exact ⟨hb.cell 0 _ rfl,hb.cell 1 _ rfl⟩
 | 1=>cases hx; exact ⟨hb.cell 2 _ rfl,hb.cell 3 _ rfl⟩
 | j+2=>simp at hx
set_option maxRecDepth 100000 in
set_option maxHeartbeats 3200000 in
theorem sbuiltin_any (n:Bs) (w:World):Calls Tryz.prog 28 #[.string (bs n)] w (StyP (bltY n) w):=by
 by_cases h1:n=dateY.name
 ·have e:bltY n=some dateY:=by unfold bltY; rw [if_pos h1]
  rw [e]
  subst h1
  clear e
  unfold StyP
  show Calls _ _ #[.string (bs [97,117,116,104,111,114,45,100,97,116,101])] _ _
  go_enter Tryz.func28,Tryz.ntmps28
  go_wp2_with fail
  refine bodyPost_ret (v:=.tuple #[styV (.slice (some ⟨w.heap.size+1,0,none⟩) 2 2) dateY,.bool true]) ?_ rfl ⟨_,rfl,?_,(kept_alloc _ _).trans (kept_alloc _ _)⟩
  ·unfold styV styCells dateY
   simp [results,Tryz.results28,go_sem]
  ·have h:=prs_two (w.alloc (.cells (styCells (.slice (some ⟨w.heap.size+1,0,none⟩) 2 2) dateY) 33)) (dateYE.getD 0 ([],[])) (dateYE.getD 1 ([],[]))
   have e:(w.alloc (.cells (styCells (.slice (some ⟨w.heap.size+1,0,none⟩) 2 2) dateY) 33)).heap.size=w.heap.size+1:=by simp
   rw [e] at h
   exact h
 by_cases h2:n=numY.name
 ·have e:bltY n=some numY:=by unfold bltY; rw [if_neg h1,if_pos h2]
  rw [e]
  subst h2
  clear e h1
  unfold StyP
  show Calls _ _ #[.string (bs [110,117,109,101,114,105,99])] _ _
  go_enter Tryz.func28,Tryz.ntmps28
  go_wp2_with fail
  refine bodyPost_ret (v:=.tuple #[styV (.slice (some ⟨w.heap.size+1,0,none⟩) 2 2) numY,.bool true]) ?_ rfl ⟨_,rfl,?_,(kept_alloc _ _).trans (kept_alloc _ _)⟩
  ·unfold styV styCells numY
   simp [results,Tryz.results28,go_sem]
  ·have h:=prs_two (w.alloc (.cells (styCells (.slice (some ⟨w.heap.size+1,0,none⟩) 2 2) numY) 33)) (numYE.getD 0 ([],[])) (numYE.getD 1 ([],[]))
   have e:(w.alloc (.cells (styCells (.slice (some ⟨w.heap.size+1,0,none⟩) 2 2) numY) 33)).heap.size=w.heap.size+1:=by simp
   rw [e] at h
   exact h
 have e:bltY n=none:=by unfold bltY; rw [if_neg h1,if_neg h2]
 rw [e]
 have g1:(n == ([97,117,116,104,111,114,45,100,97,116,101]:Bs))=false:=beq_eq_false_iff_ne.2 h1
 have g2:(n == ([110,117,109,101,114,105,99]:Bs))=false:=beq_eq_false_iff_ne.2 h2
 clear e h1 h2
 unfold StyP
 go_enter Tryz.func28,Tryz.ntmps28
 go_wp2_with fail
 refine bodyPost_ret (v:=.tuple #[styV (.slice none 0 0) zeroY,.bool false]) ?_ rfl ⟨_,rfl,⟨none,0,rfl,Nat.le_refl _,fun q=>absurd q (by simp [zeroY])⟩,kept_alloc _ _⟩
 unfold styV styCells zeroY
 simp [results,Tryz.results28,go_sem]
end Go.Proofs.YtmcoomlkbgiboaaGreatDoor
