/- Styles in plain Lean: lines, small words, pieces of templates. No condition. -/
import Derived.Test.YtmcoomlkbgiboaaGreatDoorU13
import Derived.Test.YtmcoomlkbgiboaaGreatDoorU05
import Derived.Test.YtmcoomlkbgiboaaGreatDoorU11

set_option linter.all false
namespace Go.Proofs.YtmcoomlkbgiboaaGreatDoor
open Go.RowKit

/-- Is a text a line of clean text? -/
def lnB (l:Bs):Bool:=validB (bs l) && !l.contains 10
def lowB (b:UInt8):Bool:=decide (97≤(b.toNat:Int)) && decide ((b.toNat:Int)≤122)
/-- Has a text 1 to most bytes, all of them small letters or in more? -/
def smallB (l:Bs) (most:Int) (more:Bs):Bool:=decide (1≤l.length) && (decide ((l.length:Int)≤most) && l.all fun b=>lowB b || more.contains b)
/-- A piece of a template. -/
structure Pc where
 txt:Bs
 fld:Bool
 grp:Nat
def spSet:Bs:=[123,125,91,93]
/-- How many bytes stand ahead of the first special one. -/
def runN (l:Bs):Nat:=if Lib.indexAny l spSet<0 then l.length else (Lib.indexAny l spSet).toNat
/-- The pieces of what is left of a template: gs groups have begun, the place is in group g (0: in none). -/
def splP:Nat→Bs→Nat→Nat→Option (List Pc)
 | 0,_,_,_=>none
 | _+1,[],_,g=>if g=0 then some [] else none
 | f+1,b :: r,gs,g =>
  if inSet spSet b=false then (splP f ((b :: r).drop (runN (b :: r))) gs g).map fun l=>⟨(b :: r).take (runN (b :: r)),false,g⟩ :: l
  else if b=123 then
   if before 125 r<r.length∧smallB (r.take (before 125 r)) 20 []=true then (splP f (r.drop (before 125 r+1)) gs g).map fun l=>⟨r.take (before 125 r),true,g⟩ :: l else none
  else if b=91∧g=0 then splP f r (gs+1) (gs+1)
  else if b=93∧g≠0 then splP f r gs 0
  else none
def splT (t:Bs):Option (List Pc):=splP (t.length+1) t 0 0
/-- The error and the pieces of a template. -/
def splE (t:Bs):Int:=if lnB t=false then 17 else if (splT t).isSome=true then 0 else 5
def splL (t:Bs):List Pc:=if splE t=0 then (splT t).getD [] else []
theorem splP_end (f gs g:Nat):splP (f+1) [] gs g=if g=0 then some [] else none:=rfl
theorem splP_run {b:UInt8} {r:Bs} (f gs g:Nat) (h:inSet spSet b=false):splP (f+1) (b :: r) gs g=(splP f ((b :: r).drop (runN (b :: r))) gs g).map fun l=>⟨(b :: r).take (runN (b :: r)),false,g⟩ :: l:=by
 rw [splP,if_pos h]
theorem splP_fld {r:Bs} (f gs g:Nat):splP (f+1) (123 :: r) gs g=if before 125 r<r.length∧smallB (r.take (before 125 r)) 20 []=true then (splP f (r.drop (before 125 r+1)) gs g).map fun l=>⟨r.take (before 125 r),true,g⟩ :: l else none:=by
 rw [splP,if_neg (by decide),if_pos rfl]
theorem splP_open {r:Bs} (f gs g:Nat):splP (f+1) (91 :: r) gs g=if g=0 then splP f r (gs+1) (gs+1) else none:=by
 rw [splP,if_neg (by decide),if_neg (by decide)]
 by_cases h:g=0
 ·rw [if_pos ⟨rfl,h⟩,if_pos h]
 ·rw [if_neg (fun q=>h q.2),if_neg (fun q=>absurd q.1 (by decide)),if_neg h]
theorem splP_shut {r:Bs} (f gs g:Nat):splP (f+1) (93 :: r) gs g=if g=0 then none else splP f r gs 0:=by
 rw [splP,if_neg (by decide),if_neg (by decide),if_neg (fun q=>absurd q.1 (by decide))]
 by_cases h:g=0
 ·rw [if_neg (fun q=>q.2 h),if_pos h]
 ·rw [if_pos ⟨rfl,h⟩,if_neg h]
theorem splP_bad {r:Bs} (f gs g:Nat):splP (f+1) (125 :: r) gs g=none:=by
 rw [splP,if_neg (by decide),if_neg (by decide),if_neg (fun q=>absurd q.1 (by decide)),if_neg (fun q=>absurd q.1 (by decide))]
theorem spSet_cases {b:UInt8} (h:inSet spSet b=true):b=123∨b=125∨b=91∨b=93:=by
 unfold inSet spSet at h
 simpa using h
theorem indexAny_lt (cs:Bs):∀ l:Bs,Lib.indexAny l cs<(l.length:Int)
 | []=>by rw [Lib.indexAny]; simp
 | b :: l=>by
  have ih:=indexAny_lt cs l
  rw [Lib.indexAny]
  split
  ·simp only [List.length_cons]; omega
  ·split
   ·simp only [List.length_cons]; omega
   ·simp only [List.length_cons]; omega
theorem runN_zero {b:UInt8} {r:Bs} (h:inSet spSet b=true):Lib.indexAny (b :: r) spSet=0:=by
 unfold inSet at h
 rw [Lib.indexAny,if_pos h]
theorem runN_pos {b:UInt8} {r:Bs} (h:inSet spSet b=false):(Lib.indexAny (b :: r) spSet = -1∧runN (b :: r)=r.length+1)∨(∃ k:Nat,Lib.indexAny (b :: r) spSet=(k:Int)∧runN (b :: r)=k∧0<k∧k≤r.length):=by
 have hge:=Lib.indexAny_ge spSet (b :: r)
 unfold inSet at h
 have hne:Lib.indexAny (b :: r) spSet≠0:=by
  rw [Lib.indexAny,h]
  have:=Lib.indexAny_ge spSet r
  simp only [Bool.false_eq_true,if_false]
  split
  ·omega
  ·rename_i q
   rw [Bool.not_eq_true,beq_eq_false_iff_ne] at q
   omega
 by_cases q:Lib.indexAny (b :: r) spSet = -1
 ·refine .inl ⟨q,?_⟩
  unfold runN
  rw [if_pos (by omega)]; simp
 ·refine .inr ⟨(Lib.indexAny (b :: r) spSet).toNat,by omega,?_,by omega,?_⟩
  ·unfold runN
   rw [if_neg (by omega)]
  ·have:=indexAny_lt spSet (b :: r)
   simp only [List.length_cons] at this
   omega
end Go.Proofs.YtmcoomlkbgiboaaGreatDoor

/- line and small of style. Conditions: lengths. -/
set_option linter.all false
namespace Go.Proofs.YtmcoomlkbgiboaaGreatDoor
open Go.RowKit

set_option maxRecDepth 100000 in
set_option maxHeartbeats 1600000 in
theorem sline_any (l:Bs) (w:World) (hl:l.length≤1000000000):Calls Tryz.prog 85 #[.string (bs l)] w fun e w'=>e=.returned (.bool (lnB l))∧Kept w w':=by
 have HV:=Lib.hid (fun w=>valid_any (bs l) w (by simpa using hl))
 have HC:=Lib.hid (fun w=>Tryz.strings_Contains_one (bs l) 10 w)
 simp only [bs_data] at HC
 have HCC:Hid (decide (0≤Lib.indexByte l 10)=List.contains l 10):=indexByte_contains 10 l
 have HL:Hid (lnB l=(validB (bs l) && !l.contains 10)):=rfl
 generalize lnB l=R at *
 generalize validB (bs l)=V at *
 generalize List.contains l 10=C at *
 go_enter Tryz.func85,Tryz.ntmps85
 go_wp2_with fail
 refine (HV.out _).mono ?_
 rintro e w1 ⟨rfl,n,rfl⟩
 cases V with
 | false =>
  go_wp2_with fail
  go_ret
  exact ⟨ret_bool (by rw [HL.out]; rfl),kept_drewN _ _⟩
 | true =>
  go_wp2_with fail
  refine (HC.out _).mono ?_
  rintro e w2 ⟨rfl,rfl⟩
  go_wp2_with fail
  go_ret
  exact ⟨ret_bool (by rw [HL.out,← HCC.out,Bool.true_and]; exact congrArg not (decide_eq_decide.2 Iff.rfl)),kept_drewN _ _⟩
set_option maxRecDepth 100000 in
set_option maxHeartbeats 1600000 in
theorem ssmall_any (l more:Bs) (most:Int) (w:World) (hl:l.length≤1000000000):Calls Tryz.prog 82 #[.string (bs l),.int .i64 most,.string (bs more)] w fun e w'=>e=.returned (.bool (smallB l most more))∧Kept w w':=by
 have HX:=Lib.hid (fun c w=>Tryz.strings_IndexByte (bs more) c w)
 simp only [bs_data] at HX
 have HF:Hid (∀ k (hk:k<l.length),lowB l[k]=false→more.contains l[k]=false→smallB l most more=false):=by
  intro k hk h1 h2
  unfold smallB
  have:(l.all fun b=>lowB b || more.contains b)=false:=List.all_eq_false.2 ⟨l[k],List.getElem_mem hk,by rw [h1,h2]; simp⟩
  rw [this]; simp
 have HT:Hid ((∀ k (hk:k<l.length),lowB l[k]=true∨more.contains l[k]=true)→smallB l most more=(decide (1≤l.length) && decide ((l.length:Int)≤most))):=by
  intro h
  unfold smallB
  have:(l.all fun b=>lowB b || more.contains b)=true:=List.all_eq_true.2 (fun b hb=>by
   obtain ⟨k,hk,e⟩:=List.getElem_of_mem hb
   have:=h k hk
   rw [e] at this
   rcases this with q | q <;> rw [q] <;> simp)
  rw [this]; simp
 by_cases h0:l=[]
 ·subst h0
  go_enter Tryz.func82,Tryz.ntmps82
  go_wp2_with fail
  go_ret
  exact ⟨rfl,Kept.refl _⟩
 have h0':(l == ([]:Bs))=false:=by simpa using h0
 have hl0:1≤l.length:=by cases l <;> simp at h0 ⊢
 by_cases h1:most<(l.length:Int)
 ·have HE:Hid (smallB l most more=false):=by
   show _=_
   unfold smallB
   rw [decide_eq_false (show ¬ (l.length:Int)≤most by omega)]; simp
  obtain ⟨R,HR⟩:∃ R,Hid (smallB l most more=R):=⟨_,rfl⟩
  rw [HR.out] at HE ⊢
  go_enter Tryz.func82,Tryz.ntmps82
  go_wp2_with fail
  go_ret
  exact ⟨ret_bool HE.out.symm,Kept.refl _⟩
 have HE:Hid ((∀ k (hk:k<l.length),lowB l[k]=true∨more.contains l[k]=true)→smallB l most more=true):=by
  intro h
  rw [HT.out h,decide_eq_true hl0,decide_eq_true (show (l.length:Int)≤most by omega)]; rfl
 obtain ⟨R,HR⟩:∃ R,Hid (smallB l most more=R):=⟨_,rfl⟩
 rw [HR.out] at HE HF ⊢
 clear HT HR hl0
 go_enter Tryz.func82,Tryz.ntmps82
 go_wp2_with fail
 go_loop [18] (fun i=>∃ k:Nat,k≤l.length∧i=.int .i64 k∧Hid (∀ j (hj:j<l.length),j<k→lowB l[j]=true∨more.contains l[j]=true)) (fun i=>l.length - (intOf i).toNat)
 case atStart=>exact ⟨0,Nat.zero_le _,rfl,fun j hj h=>by omega⟩
 case round =>
  obtain ⟨k,hk,rfl,HN⟩:=hrel
  by_cases hlt:k<l.length
  ·have i0:=run_ix (P:=Tryz.prog) (t:=9) Tryz.underlying9 l k hlt k rfl
   have h8:=at8_lo l k
   have HB:Hid (at8 l k=(l[k].toNat:Int)):=at8_get l k hlt
   have HLO:Hid (lowB l[k]=(decide (97≤at8 l k) && decide (at8 l k≤122))):=by
    show _=_
    rw [at8_get l k hlt]; rfl
   have HIX:Hid (decide (0≤Lib.indexByte more (at8 l k).toNat.toUInt8)=more.contains l[k]):=by
    show _=_
    rw [HB.out,Int.toNat_natCast,show (l[k].toNat).toUInt8=l[k] from by simp,indexByte_contains]
   have HFK:=Lib.hid (HF.out k hlt)
   have HNK:Hid ((lowB l[k]=true∨more.contains l[k]=true)→∀ j (hj:j<l.length),j<k+1→lowB l[j]=true∨more.contains l[j]=true):=by
    intro h j hj hjk
    rcases Nat.lt_or_ge j k with q | q
    ·exact HN.out j hj q
    ·obtain rfl:j=k:=by omega
     exact h
   have hge:=Lib.indexByte_ge more (at8 l k).toNat.toUInt8
   have HXK:=Lib.hid (fun w=>HX.out (at8 l k) w)
   by_cases hlow:97≤at8 l k∧at8 l k≤122
   ·obtain ⟨q1,q2⟩:=hlow
    have HS:=Lib.hid (HNK.out (.inl (by rw [HLO.out,decide_eq_true q1,decide_eq_true q2]; rfl)))
    have b1:¬ at8 l k<97:=by omega
    have b2:¬ 122<at8 l k:=by omega
    generalize at8 l k=b at *
    clear HNK HFK HXK HIX hge q1 q2 HLO HB
    go_wp2_with fail
    go_round
    case rel=>exact ⟨k+1,by omega,by go_num,HS.out⟩
    case measure=>simp [intOf]; omega
   ·have HLF:Hid (lowB l[k]=false):=by
     show _=_
     rw [HLO.out,Bool.and_eq_false_iff,decide_eq_false_iff_not,decide_eq_false_iff_not]
     omega
    have hlow':at8 l k<97∨122<at8 l k:=by omega
    generalize Lib.indexByte more (at8 l k).toNat.toUInt8=r at *
    by_cases hr:0≤r
    ·have HS:=Lib.hid (HNK.out (.inr (by rw [← HIX.out]; exact decide_eq_true hr)))
     have hr':¬ r<0:=by omega
     generalize at8 l k=b at *
     clear HNK HFK HIX HLO HB HLF hlow
     by_cases q1:b<97
     ·clear hlow'
      go_wp2_with fail
      refine (HXK.out _).mono ?_
      rintro e w2 ⟨rfl,rfl⟩
      go_wp2_with fail
      go_round
      case rel=>exact ⟨k+1,by omega,by go_num,HS.out⟩
      case measure=>simp [intOf]; omega
     ·have q2:122<b:=by omega
      clear hlow'
      go_wp2_with fail
      refine (HXK.out _).mono ?_
      rintro e w2 ⟨rfl,rfl⟩
      go_wp2_with fail
      go_round
      case rel=>exact ⟨k+1,by omega,by go_num,HS.out⟩
      case measure=>simp [intOf]; omega
    ·have HR:=Lib.hid (HFK.out HLF.out (by rw [← HIX.out]; exact decide_eq_false hr))
     have hr':r<0:=by omega
     generalize at8 l k=b at *
     clear HNK HFK HIX HLO HB HLF hlow
     by_cases q1:b<97
     ·clear hlow'
      go_wp2_with fail
      refine (HXK.out _).mono ?_
      rintro e w2 ⟨rfl,rfl⟩
      go_wp2_with fail
      go_ret
      exact ⟨ret_bool HR.out.symm,Kept.refl _⟩
     ·have q2:122<b:=by omega
      clear hlow'
      go_wp2_with fail
      refine (HXK.out _).mono ?_
      rintro e w2 ⟨rfl,rfl⟩
      go_wp2_with fail
      go_ret
      exact ⟨ret_bool HR.out.symm,Kept.refl _⟩
  ·obtain rfl:k=l.length:=by omega
   have HR:=Lib.hid (HE.out (fun k hk=>HN.out k hk hk))
   go_wp2_with fail
   go_ret
   exact ⟨ret_bool HR.out.symm,Kept.refl _⟩
end Go.Proofs.YtmcoomlkbgiboaaGreatDoor

/- Plain words on the words of a line, letter by letter; letters from a place on; rules letter by letter. No condition. -/
set_option linter.all false
namespace Go.Proofs.YtmcoomlkbgiboaaGreatDoor
open Go.RowKit

/-- The letters from a place of a text on. -/
def ptsF (l:Bs) (k:Nat):List Int:=(pointsFrom (bs l) k).map (·.1)
theorem ptsF_zero (l:Bs):ptsF l 0=ptsL l:=rfl
theorem ptsF_in (l:Bs) (k:Nat) (h:k<l.length):ptsF l k=(dec (bs l) k).1 :: ptsF l (k+(dec (bs l) k).2.toNat):=by
 unfold ptsF
 rw [pointsFrom_in (bs l) k (by simpa using h)]; rfl
theorem ptsF_out (l:Bs) (k:Nat) (h:¬ k<l.length):ptsF l k=[]:=by
 unfold ptsF
 rw [pointsFrom_out (bs l) k (by simpa using h)]; rfl
theorem ptsL_len (l:Bs):(ptsL l).length≤l.length:=by
 unfold ptsL points
 rw [List.length_map]
 have:=pts_len (bs l) 0
 simpa using this
end Go.Proofs.YtmcoomlkbgiboaaGreatDoor

/- Tables of a collation in memory: slices of whole numbers, sets, groups, values. No condition. -/
set_option linter.all false
namespace Go.Proofs.YtmcoomlkbgiboaaGreatDoor
open Go.RowKit

def intC (xs:List Int):List Value:=xs.map fun x=>.int .i64 x
theorem intC_snoc (xs:List Int) (x:Int):intC (xs ++ [x])=intC xs ++ [.int .i64 x]:=by simp [intC]
theorem intC_at (xs:List Int) (j:Nat) (x:Int) (h:xs[j]? = some x):(intC xs)[j]? = some (.int .i64 x):=by simp [intC,h]
/-- The slice value v reads in w as the numbers xs. -/
def Ints (w:World) (v:Value) (xs:List Int):Prop :=
 ∃ a c,v=.slice a xs.length c∧xs.length≤c∧(0<xs.length→∃ g o,a=some ⟨g,o,none⟩∧g<w.heap.size∧∀ j x,xs[j]? = some x→w.cell? ⟨g,o+j,none⟩=some (.int .i64 x))
theorem Ints.kept {w w':World} {v:Value} {xs:List Int} (h:Ints w v xs) (k:Kept w w'):Ints w' v xs:=by
 obtain ⟨a,c,hv,hc,h3⟩:=h
 refine ⟨a,c,hv,hc,fun q=>?_⟩
 obtain ⟨g,o,ha,hg,hcell⟩:=h3 q
 exact ⟨g,o,ha,Nat.lt_of_lt_of_le hg k.size,fun j x hx=>(k.cell (p:=⟨g,o+j,none⟩) hg).trans (hcell j x hx)⟩
theorem Ints.own {w:World} {base:Nat} {e:TypeId} {v:Value} {xs:List Int} (h:w.ownsRow base e 1 v xs.length (intC xs)):Ints w v xs:=by
 obtain ⟨a,c,hv,hc,_,h3⟩:=own_cap h
 refine ⟨a,c,hv,hc,fun q=>?_⟩
 obtain ⟨g,ha,_,hg,hcell⟩:=h3 q
 exact ⟨g,0,ha,hg,fun j x hx=>by rw [Nat.zero_add]; exact hcell j _ (intC_at xs j x hx)⟩
/-- A slice whose elements lie in no block of S is as it was. -/
theorem Ints.only {S:Nat→Prop} {w w':World} {v:Value} {xs:List Int} (h:Ints w v xs) (k:Only S w w') (hS:∀ g,S g→w.heap.size≤g∨∀ o n c,v≠.slice (some ⟨g,o,none⟩) n c):Ints w' v xs:=by
 obtain ⟨a,c,hv,hc,h3⟩:=h
 refine ⟨a,c,hv,hc,fun q=>?_⟩
 obtain ⟨g,o,ha,hg,hcell⟩:=h3 q
 have hs:¬ S g:=fun z=>by
  rcases hS g z with h1 | h1
  ·omega
  ·exact h1 o _ _ (by rw [hv,ha])
 exact ⟨g,o,ha,Nat.lt_of_lt_of_le hg k.size,fun j x hx=>(k.cell g _ hg hs).trans (hcell j x hx)⟩

/-- The set of numbers, as a map that says true of each. -/
def setV (xs:List Int):List (Int × Value):=xs.foldl (fun es x=>if (getV es x).isSome=true then es else es ++ [(x,.bool true)]) []
theorem getV_snoc (es:List (Int × Value)) (x:Int) (v:Value) (k:Int):getV (es ++ [(x,v)]) k=match getV es k with
  | some u=>some u
  | none=>if x=k then some v else none:=by
 unfold getV
 rw [List.find?_append]
 cases h:es.find? (fun e=>e.1 == k) with
 | some e=>rfl
 | none =>
  simp only [Option.none_or,Option.map_none]
  by_cases q:x=k
  ·subst q; simp
  ·rw [if_neg q]; simp [q]
theorem setV_snoc (xs:List Int) (x:Int):setV (xs ++ [x])=if (getV (setV xs) x).isSome=true then setV xs else setV xs ++ [(x,.bool true)]:=by
 unfold setV; rw [List.foldl_append]; rfl
theorem getV_set (k:Int):∀ (n:Nat) (xs:List Int),xs.length=n→getV (setV xs) k=if xs.contains k=true then some (.bool true) else none
 | 0,xs,h=>by obtain rfl:=List.length_eq_zero_iff.1 h; rfl
 | n+1,xs,h=>by
  obtain ⟨o,x,rfl⟩:∃ o x,xs=o ++ [x]:=⟨xs.dropLast,xs.getLast (by intro q; subst q; cases h),(List.dropLast_concat_getLast _).symm⟩
  have ih:=getV_set k n o (by simpa using h)
  have ihx:=getV_set x n o (by simpa using h)
  rw [setV_snoc,ihx]
  have hc:(o ++ [x]).contains k=(o.contains k || x == k):=by
   rw [Bool.eq_iff_iff]
   simp only [List.contains_iff_mem,List.mem_append,List.mem_singleton,Bool.or_eq_true,beq_iff_eq]
   exact ⟨fun h=>h.elim .inl (fun e=>.inr e.symm),fun h=>h.elim .inl (fun e=>.inr e.symm)⟩
  rw [hc]
  by_cases q:o.contains x=true
  ·rw [if_pos q,if_pos (show (some (Value.bool true)).isSome=true from rfl),ih]
   by_cases e:x=k
   ·subst e; rw [q]; rfl
   ·have:(x == k)=false:=by simpa using e
    rw [this,Bool.or_false]
  ·rw [if_neg q,if_neg (show ¬ (none:Option Value).isSome=true by simp),getV_snoc,ih]
   by_cases q2:o.contains k=true
   ·rw [if_pos q2,q2]; rfl
   ·rw [if_neg q2]
    have q3:o.contains k=false:=by simpa using q2
    rw [q3,Bool.false_or]
    by_cases e:x=k
    ·subst e; simp
    ·have:(x == k)=false:=by simpa using e
     rw [if_neg e,this]; simp
theorem setV_has (xs:List Int) (k:Int):(getV (setV xs) k).getD (.bool false)=.bool (xs.contains k):=by
 rw [getV_set k _ xs rfl]
 cases xs.contains k <;> rfl
theorem setV_is (xs:List Int) (k:Int):getV (setV xs) k=if xs.contains k=true then some (.bool true) else none:=getV_set k _ xs rfl
/-- Letters of one element of Order put to the groups. -/
def grpA (i:Nat) (es:List (Int × Value)) (xs:List Int):List (Int × Value):=xs.foldl (fun es x=>if (getV es x).isSome=true then es else es ++ [(x,.int .i64 i)]) es
def grpN:List Bs→Nat→List (Int × Value)→List (Int × Value)
 | [],_,es=>es
 | s :: ss,i,es=>grpN ss (i+1) (grpA i es (ptsL s))
/-- The groups of a collation. -/
def grpV (c:ColT):List (Int × Value):=grpN c.order 0 []
theorem grpA_snoc (i:Nat) (es:List (Int × Value)) (xs:List Int) (x:Int):grpA i es (xs ++ [x])=if (getV (grpA i es xs) x).isSome=true then grpA i es xs else grpA i es xs ++ [(x,.int .i64 i)]:=by
 unfold grpA; rw [List.foldl_append]; rfl
theorem getV_grpA (i:Nat) (k:Int):∀ (xs:List Int) (es:List (Int × Value)),getV (grpA i es xs) k=match getV es k with
  | some u=>some u
  | none=>if xs.contains k=true then some (.int .i64 i) else none
 | [],es=>by
  show getV es k=_
  cases getV es k <;> rfl
 | x :: xs,es=>by
  show getV (grpA i (if (getV es x).isSome=true then es else es ++ [(x,.int .i64 i)]) xs) k=_
  rw [getV_grpA i k xs]
  have hc:(x :: xs).contains k=((x == k) || xs.contains k):=by
   rw [Bool.eq_iff_iff]
   simp only [List.contains_iff_mem,List.mem_cons,Bool.or_eq_true,beq_iff_eq]
   exact ⟨fun h=>h.elim (fun e=>.inl e.symm) .inr,fun h=>h.elim (fun e=>.inl e.symm) .inr⟩
  rw [hc]
  by_cases q:(getV es x).isSome=true
  ·rw [if_pos q]
   cases hk:getV es k with
   | some u=>rfl
   | none =>
    simp only
    have:(x == k)=false:=by
     rw [beq_eq_false_iff_ne]
     rintro rfl
     rw [hk] at q; cases q
    rw [this,Bool.false_or]
  ·rw [if_neg q,getV_snoc]
   cases hk:getV es k with
   | some u=>rfl
   | none =>
    simp only
    by_cases e:x=k
    ·subst e; simp
    ·have:(x == k)=false:=by simpa using e
     rw [if_neg e,this,Bool.false_or]
theorem getV_grpN (k:Int):∀ (ss:List Bs) (i:Nat) (es:List (Int × Value)),getV (grpN ss i es) k=match getV es k with
  | some u=>some u
  | none=>(ss.findIdx? fun s=>(ptsL s).contains k).map fun j=>.int .i64 ((i+j:Nat):Int)
 | [],i,es=>by
  show getV es k=_
  cases getV es k <;> rfl
 | s :: ss,i,es=>by
  show getV (grpN ss (i+1) (grpA i es (ptsL s))) k=_
  rw [getV_grpN k ss (i+1),getV_grpA]
  cases hk:getV es k with
  | some u=>rfl
  | none =>
   simp only
   rw [List.findIdx?_cons]
   by_cases q:(ptsL s).contains k=true
   ·rw [if_pos q,if_pos q]; rfl
   ·rw [if_neg q,if_neg q]
    simp only [Option.map_map]
    congr 1
    funext j
    simp only [Function.comp_apply]
    congr 2; omega
theorem grpV_is (c:ColT) (k:Int):getV (grpV c) k=(grpI c k).map fun j=>.int .i64 (j:Int):=by
 unfold grpV grpI
 rw [getV_grpN]
 simp [getV]
theorem grpN_snoc:∀ (ss:List Bs) (s:Bs) (i:Nat) (es:List (Int × Value)),grpN (ss ++ [s]) i es=grpA (i+ss.length) (grpN ss i es) (ptsL s)
 | [],s,i,es=>rfl
 | t :: ss,s,i,es=>by
  show grpN (ss ++ [s]) (i+1) _=_
  rw [grpN_snoc ss s (i+1),List.length_cons,show i+1+ss.length=i+(ss.length+1) from by omega]; rfl
/-- The values of rules in memory: what is found at a letter reads as the letters as which it is sorted. -/
def ValsR (w:World) (es:List (Int × Value)) (c:ColT):Prop:=∀ k,match valI c k with
 | none=>getV es k=none
 | some ys=>∃ v,getV es k=some v∧Ints w v ys
theorem ValsR.nil (w:World) (o:List Bs) (i:Bs):ValsR w [] ⟨[],o,i⟩:=fun _=>rfl
theorem ValsR.kept {w w':World} {es:List (Int × Value)} {c:ColT} (h:ValsR w es c) (k:Kept w w'):ValsR w' es c:=fun x=>by
 have:=h x
 cases hv:valI c x with
 | none=>rw [hv] at this; exact this
 | some ys =>
  rw [hv] at this
  obtain ⟨v,h1,h2⟩:=this
  exact ⟨v,h1,h2.kept k⟩
theorem valI_snoc (rs:List Pr) (p:Pr) (o:List Bs) (i:Bs) (x:Int):valI ⟨rs ++ [p],o,i⟩ x=match valI ⟨rs,o,i⟩ x with
  | some ys=>some ys
  | none=>if ptsL p.1=[x] then some (ptsL p.2) else none:=by
 unfold valI
 simp only [List.find?_append]
 cases h:rs.find? (fun p=>ptsL p.1 == [x]) with
 | some e=>rfl
 | none =>
  simp only [Option.none_or,Option.map_none]
  by_cases q:ptsL p.1=[x]
  ·rw [if_pos q]; simp [q]
  ·rw [if_neg q]; simp [q]
end Go.Proofs.YtmcoomlkbgiboaaGreatDoor
