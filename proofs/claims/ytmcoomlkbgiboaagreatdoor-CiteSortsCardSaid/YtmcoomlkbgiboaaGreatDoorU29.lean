/- Plain: the order of the bibliography; bounds of what few lets through. No condition. -/
import Derived.Test.YtmcoomlkbgiboaaGreatDoorU25
import Derived.Test.YtmcoomlkbgiboaaGreatDoorU27
import Derived.Test.YtmcoomlkbgiboaaGreatDoorU28
import Derived.Test.YtmcoomlkbgiboaaGreatDoorU19
import Derived.Test.YtmcoomlkbgiboaaGreatDoorU21
import Derived.Test.YtmcoomlkbgiboaaGreatDoorU09
import Derived.Test.YtmcoomlkbgiboaaGreatDoorU02
import Derived.Test.YtmcoomlkbgiboaaGreatDoorU22
import Derived.Test.YtmcoomlkbgiboaaGreatDoorU26
import Derived.Test.YtmcoomlkbgiboaaGreatDoorU17
import Derived.Test.YtmcoomlkbgiboaaGreatDoorU24
import Derived.Test.YtmcoomlkbgiboaaGreatDoorU12
import Derived.Test.YtmcoomlkbgiboaaGreatDoorU08
import Derived.Test.YtmcoomlkbgiboaaGreatDoorU07
import Derived.Test.YtmcoomlkbgiboaaGreatDoorU13
import Derived.BigQuiet

set_option linter.all false
namespace Go.Proofs.YtmcoomlkbgiboaaGreatDoor
open Go.RowKit

def kYr:Bs:=[121,101,97,114]
/-- What a source is sorted by. -/
def keyOf (s:SrcT):KeyT:=⟨authK s,yearL ((fieldL s.fields kYr).getD []),(fieldL s.fields wTitle).getD [],s.key⟩
def sorOf (s:SrcT):SorT:=⟨keyOf s,s⟩
def cfO (c:ColT) (ws:List Bs) (a b:SrcT):Int:=cfW c ws (keyOf a) (keyOf b)
def ordL (c:ColT) (ws:List Bs) (l:List SrcT):List SrcT:=sortS (cfO c ws) l
theorem srtS_ord (c:ColT) (ws:List Bs) (l:List SrcT):srtS (fun a b=>cfW c ws a.k b.k) (l.map sorOf)=(ordL c ws l).map sorOf:=by
 unfold srtS ordL
 rw [insertion_toS (fun x y=>(pre_map SorT.k (cfW_pre c ws)).anti x y)]
 exact (sortS_map (fun a b:SorT=>cfW c ws a.k b.k) sorOf l).symm
theorem ordL_len (c:ColT) (ws:List Bs) (l:List SrcT):(ordL c ws l).length=l.length:=sortS_len _
theorem ordL_perm (c:ColT) (ws:List Bs) (l:List SrcT):(ordL c ws l).Perm l:=sortS_perm _
theorem ordL_twice (c:ColT) (ws:List Bs) (l:List SrcT):ordL c ws (ordL c ws l)=ordL c ws l:=sortS_twice (pre_map keyOf (cfW_pre c ws)) l
/-- Bounds of a source. -/
def FitL (s:SrcT):Prop:=s.author.length≤5∧s.editor.length≤5∧s.fields.length≤12∧s.key.length+s.type.length≤200∧(∀ f∈s.fields,f.1.length+f.2.length≤200)∧∀ q∈s.author ++ s.editor,q.1.length+q.2.1.length+q.2.2.1.length+q.2.2.2.length≤200
/-- Bounds of a style. -/
def FewY (y:StyT):Prop:=y.entries.length≤12∧y.cite.length+y.bare.length+y.between.length+y.begin_.length+y.end_.length+y.sort.length+y.name.length≤400∧(∀ p∈y.entries,p.1.length+p.2.length≤300)∧(-9223372036854775808≤y.most∧y.most≤9223372036854775807)
theorem FewY.small {y:StyT} (h:FewY y):SmallY y:=by
 obtain ⟨h1,h2,h3,_⟩:=h
 refine ⟨by omega,by omega,by omega,by omega,by omega,by omega,by omega,by omega,fun p hp=>?_⟩
 have:=h3 p hp
 constructor <;> omega
theorem authL_sub (s:SrcT):∀ q∈authL s,q∈s.author ++ s.editor:=fun q h=>by
 unfold authL at h
 split at h
 ·exact List.mem_append_right _ h
 ·exact List.mem_append_left _ h
theorem authL_len {s:SrcT} (h:FitL s):(authL s).length≤5:=by
 unfold authL
 split
 ·exact h.2.1
 ·exact h.1
theorem invL_len (a b c d:Bs):(invL a b c d false).length≤a.length+b.length+c.length+d.length+1000:=by
 have h1:=joinedL_le [c,a]
 have h2:bulk [c,a]=c.length+1+(a.length+1+0):=rfl
 have h3:givenI b false=b:=rfl
 unfold invL
 rw [h3,List.length_append,List.length_append]
 have h4:(if b=[] then ([]:Bs) else [44,32] ++ b).length≤b.length+2:=by split <;> simp
 have h5:(if d=[] then ([]:Bs) else [44,32] ++ d).length≤d.length+2:=by split <;> simp
 omega
theorem authK_len {s:SrcT} (h:FitL s):(authK s).length≤9000:=by
 have h1:=join_sep_le 1200 ((authL s).map invP) (fun x hx=>by
  obtain ⟨q,hq,rfl⟩:=List.mem_map.1 hx
  have h2:=h.2.2.2.2.2 q (authL_sub s q hq)
  have h3:=invL_len q.1 q.2.1 q.2.2.1 q.2.2.2
  unfold invP
  omega)
 have h4:=authL_len h
 rw [List.length_map] at h1
 have h5:(authL s).length * (1200+2)≤5 * (1200+2):=Nat.mul_le_mul_right _ h4
 have h6:authK s=Lib.join ((authL s).map invP) sepL:=rfl
 rw [h6]
 omega
theorem fldL_len {ps:List Pr} {n:Nat} (h:∀ p∈ps,p.1.length+p.2.length≤n) (k:Bs):((fieldL ps k).getD []).length≤n:=by
 unfold fieldL
 cases hx:ps.find? fun q=>q.1 == k with
 | none=>simp
 | some p =>
  have:=h p (List.mem_of_find?_eq_some hx)
  simp only [Option.map_some,Option.getD_some]; omega
theorem keyOf_fit {s:SrcT} (h:FitL s):FitKy (keyOf s):=by
 have h1:=authK_len h
 have h2:=fldL_len h.2.2.2.2.1 wTitle
 have h3:=h.2.2.2.1
 have h4:=yearL_range ((fieldL s.fields kYr).getD [])
 exact ⟨by show (authK s).length≤_; omega,by show ((fieldL s.fields wTitle).getD []).length≤_; omega,by show s.key.length≤_; omega,by show _≤yearL _; omega,by show yearL _≤_; omega⟩
theorem locC_small (lang:Bs):SmallC (locC lang):=by
 have h1:=letN_len (lang == wEs) 26
 have hr:rkL lang=rkDe∨rkL lang=rkFr∨rkL lang=rkEs∨rkL lang=[]:=by
  unfold rkL
  split
  ·exact .inl rfl
  ·split
   ·exact .inr (.inl rfl)
   ·split
    ·exact .inr (.inr (.inl rfl))
    ·exact .inr (.inr (.inr rfl))
 refine ⟨?_,?_,?_,?_,?_⟩
 ·show (rkL lang).length≤_
  rcases hr with e | e | e | e <;> rw [e] <;> decide
 ·show (digN 10 ++ letN (lang == wEs) 26).length≤_
  rw [List.length_append,digN_len]; omega
 ·show ([]:Bs).length≤_
  simp
 ·intro s hs
  rcases List.mem_append.1 (show s∈digN 10 ++ letN (lang == wEs) 26 from hs) with h | h
  ·unfold digN at h
   obtain ⟨k,-,rfl⟩:=List.mem_map.1 h
   simp
  ·unfold letN at h
   obtain ⟨k,-,h⟩:=List.mem_flatMap.1 h
   unfold letC at h
   rcases List.mem_cons.1 h with rfl | h
   ·simp
   ·split at h
    ·rw [List.mem_singleton.1 h]; decide
    ·cases h
 ·show ∀ p∈rkL lang,_
  rcases hr with e | e | e | e <;> rw [e] <;> decide
/-- The words of Sort. -/
def wsY (y:StyT):List Bs:=Lib.fields y.sort
theorem srt_word {x:Bs} (h:srtK x=true):x≠[]∧∀ b∈x,b.toNat<128∧Lib.isSp b=false:=by
 rcases srt_some h with rfl | rfl | rfl | rfl
 all_goals exact ⟨by decide,by decide +kernel⟩
theorem srtE_words {l:Bs} (h:srtE l=0):l=[]∨(splitC 32 l).all srtK=true:=by
 unfold srtE at h
 split at h
 ·exact .inl ‹_›
 ·right
  split at h
  ·cases h
  ·rename_i q; simpa using q
theorem srtE_bytes {l:Bs} (h:srtE l=0):∀ b∈l,b.toNat<128∧Lib.isSp b=(b == 32):=by
 intro b hb
 rcases srtE_words h with rfl | q
 ·cases hb
 ·rcases cover_split l b hb with rfl | ⟨x,hx,hbx⟩
  ·decide +kernel
  ·have h1:=(srt_word (List.all_eq_true.1 q x hx)).2 b hbx
   refine ⟨h1.1,?_⟩
   rw [h1.2]
   symm
   rw [beq_eq_false_iff_ne]
   intro e
   subst e
   exact absurd h1.2 (by decide +kernel)
theorem styE_sort {y:StyT} (h:styE y=0):srtE y.sort=0:=by
 unfold styE at h
 split at h
 ·cases h
 ·split at h
  ·cases h
  ·split at h
   ·rename_i q; exact absurd h q
   ·rename_i q; simpa using q
/-- The words of Sort, as the reference finds them. -/
theorem wsY_split {y:StyT} (h:styE y=0) (h0:y.sort≠[]):wsY y=splitC 32 y.sort:=by
 have h1:=styE_sort h
 rcases srtE_words h1 with q | q
 ·exact absurd q h0
 ·exact fields_split y.sort (fun b hb=>(srtE_bytes h1 b hb).2) (fun x hx=>(srt_word (List.all_eq_true.1 q x hx)).1)
theorem wsY_nil {y:StyT} (h0:y.sort=[]):wsY y=[]:=by unfold wsY; rw [h0]; rfl
theorem wsY_len {y:StyT} (h:styE y=0):(wsY y).length≤y.sort.length+1:=by
 by_cases h0:y.sort=[]
 ·rw [wsY_nil h0]; simp
 ·rw [wsY_split h h0,splitC_length]
  have:=List.count_le_length (a:=(32:UInt8)) (l:=y.sort)
  omega
/-- Order: the error and the sources. -/
def ordR (y:StyT) (lang:Bs) (l:List SrcT):Int × List SrcT:=if styE y=0 then (0,ordL (locC lang) (wsY y) l) else (styE y,[])
end Go.Proofs.YtmcoomlkbgiboaaGreatDoor

/- Is a text in a list; how often; are lists of texts equal (ref32 has, count; law32 texts). Conditions: lengths. -/
set_option linter.all false
namespace Go.Proofs.YtmcoomlkbgiboaaGreatDoor
open Go.RowKit

theorem count_take {l:List Bs} {k:Nat} {y x:Bs} (h:l[k]? = some y):(l.take (k+1)).count x=(l.take k).count x+(if (y == x)=true then 1 else 0):=by
 rw [List.take_succ,h,List.count_append]
 congr 1
 show [y].count x=_
 rw [List.count_cons,List.count_nil,Nat.zero_add]
theorem take_eq_succ {α:Type} {a b:List α} {k:Nat} {x:α} (h1:a[k]? = some x) (h2:b[k]? = some x) (h:a.take k=b.take k):a.take (k+1)=b.take (k+1):=by
 rw [List.take_succ,List.take_succ,h,h1,h2]
theorem ne_at {α:Type} {a b:List α} {k:Nat} {x y:α} (h1:a[k]? = some x) (h2:b[k]? = some y) (h:x≠y):a≠b:=fun e=>by
 subst e; rw [h1] at h2; exact h (Option.some.inj h2)
end Go.Proofs.YtmcoomlkbgiboaaGreatDoor

/- Equality of lists of persons, pairs and sources (law32 persons, sources; ref04 Pairs), exact. Conditions: lengths. -/
set_option linter.all false
namespace Go.Proofs.YtmcoomlkbgiboaaGreatDoor
open Go.RowKit

theorem prs_at {w:World} {a:Option Addr} {n c:Nat} {ps:List Pr} (h:Prs w (.slice a n c) ps) (j:Nat) (q:Pr) (hq:ps[j]? = some q) :
  ∃ g o,a=some ⟨g,o,none⟩∧g<w.heap.size∧w.cell? ⟨g,o+j * 2,none⟩=some (.string (bs q.1))∧w.cell? ⟨g,o+j * 2+1,none⟩=some (.string (bs q.2)):=by
 obtain ⟨a',c',hv,hc,h3⟩:=h
 obtain ⟨rfl,rfl,rfl⟩:=Value.slice.inj hv
 obtain ⟨hk,_⟩:=List.getElem?_eq_some_iff.1 hq
 obtain ⟨g,o,ha,hg,hcell⟩:=h3 (by omega)
 obtain ⟨c0,c1⟩:=hcell j q hq
 exact ⟨g,o,ha,hg,c0,c1⟩
set_option maxRecDepth 100000 in
set_option maxHeartbeats 3200000 in
theorem persons32_any (v v':Value) (xs ys:List P4) (w:World) (hv:Perss w v xs) (hv':Perss w v' ys) (hl:xs.length≤1100000) (hl':ys.length≤1100000) :
  Calls Tryz.prog 47 #[v,v'] w fun e w'=>e=.returned (.bool (decide (xs=ys)))∧∃ m,w'=w.drewN m:=by
 have HV:=Lib.hid hv
 have HV2:=Lib.hid hv'
 obtain ⟨a,c,rfl,hc⟩:=(show ∃ a c,v=.slice a xs.length c∧xs.length≤c by obtain ⟨a,c,e,l,_⟩:=hv; exact ⟨a,c,e,l⟩)
 obtain ⟨b,d,rfl,hd⟩:=(show ∃ a c,v'=.slice a ys.length c∧ys.length≤c by obtain ⟨a,c,e,l,_⟩:=hv'; exact ⟨a,c,e,l⟩)
 have HT:Hid (xs=ys→decide (xs=ys)=true):=fun h=>decide_eq_true h
 have HN:Hid (xs≠ys→decide (xs=ys)=false):=fun h=>decide_eq_false h
 generalize decide (xs=ys)=R at *
 clear hv hv'
 by_cases hlen:xs.length=ys.length
 ·have hlb:((xs.length:Int) == (ys.length:Int))=true:=by simp [hlen]
  have hln:((xs.length:Int) != (ys.length:Int))=false:=by simp [hlen]
  have HL:=Lib.hid hlen
  clear hlen
  go_enter Tryz.func47,Tryz.ntmps47
  go_wp2_with fail
  go_loopw [5] (fun i wr=>∃ k:Nat,k≤xs.length∧i=.int .i64 k∧Hid (xs.take k=ys.take k)∧Hid (∃ m,wr=w.drewN m)) (fun i _=>xs.length - (intOf i).toNat)
  case atStart=>exact ⟨0,Nat.zero_le _,rfl,(by show xs.take 0=ys.take 0; simp),0,rfl⟩
  case round =>
   clear hlb hln
   obtain ⟨k,hk,rfl,HX,HKR⟩:=hrel
   have HKK:Hid (Kept w wr):=by obtain ⟨m,hm⟩:=HKR.out; rw [hm]; exact kept_drewN _ _
   by_cases hlt:k<xs.length
   ·have hlt2:k<ys.length:=by have:=HL.out; omega
    obtain ⟨x,hx⟩:∃ z,xs[k]? = some z:=⟨_,List.getElem?_eq_getElem hlt⟩
    obtain ⟨y,hy⟩:∃ z,ys[k]? = some z:=⟨_,List.getElem?_eq_getElem hlt2⟩
    obtain ⟨g,o,rfl,hg,c0,c1,c2,c3⟩:=Perss.at_ (HV.out.kept HKK.out) k x hx
    obtain ⟨g2,o2,rfl,hg2,d0,d1,d2,d3⟩:=Perss.at_ (HV2.out.kept HKK.out) k y hy
    obtain ⟨x0,x1,x2,x3⟩:=x
    obtain ⟨y0,y1,y2,y3⟩:=y
    simp only at c0 d0 c1 d1 c2 d2 c3 d3
    clear HKK
    by_cases hz:x0=y0
    ·subst hz
     by_cases hz:x1=y1
     ·subst hz
      by_cases hz:x2=y2
      ·subst hz
       by_cases hz:x3=y3
       ·subst hz
        have HX2:=Lib.hid (take_eq_succ hx hy HX.out)
        clear hx hy HX
        go_wp2_with fail
        go_quiet (fail)
        go_wp2_with fail
        go_roundw
        case rel=>exact ⟨k+1,by omega,by go_num,HX2.out,by obtain ⟨m,hm⟩:=HKR.out; exact ⟨m+nq,by rw [hm,World.drewN_drewN]⟩⟩
        case measure=>simp [intOf]; omega
       ·have hzb:(x3 == y3)=false:=by rw [beq_eq_false_iff_ne]; exact hz
        have hzn:(x3 != y3)=true:=by rw [bne_iff_ne]; exact hz
        obtain rfl:=HN.out (ne_at hx hy (fun e=>hz (congrArg (fun z=>z.2.2.2) e)))
        clear hx hy HX
        go_wp2_with fail
        go_quiet (fail)
        go_wp2_with fail
        go_ret
        refine ⟨rfl,?_⟩
        obtain ⟨m,hm⟩:=HKR.out
        exact ⟨m+nq,by rw [hm,World.drewN_drewN]⟩
      ·have hzb:(x2 == y2)=false:=by rw [beq_eq_false_iff_ne]; exact hz
       have hzn:(x2 != y2)=true:=by rw [bne_iff_ne]; exact hz
       obtain rfl:=HN.out (ne_at hx hy (fun e=>hz (congrArg (fun z=>z.2.2.1) e)))
       clear hx hy HX
       go_wp2_with fail
       go_quiet (fail)
       go_wp2_with fail
       go_ret
       refine ⟨rfl,?_⟩
       obtain ⟨m,hm⟩:=HKR.out
       exact ⟨m+nq,by rw [hm,World.drewN_drewN]⟩
     ·have hzb:(x1 == y1)=false:=by rw [beq_eq_false_iff_ne]; exact hz
      have hzn:(x1 != y1)=true:=by rw [bne_iff_ne]; exact hz
      obtain rfl:=HN.out (ne_at hx hy (fun e=>hz (congrArg (fun z=>z.2.1) e)))
      clear hx hy HX
      go_wp2_with fail
      go_quiet (fail)
      go_wp2_with fail
      go_ret
      refine ⟨rfl,?_⟩
      obtain ⟨m,hm⟩:=HKR.out
      exact ⟨m+nq,by rw [hm,World.drewN_drewN]⟩
    ·have hzb:(x0 == y0)=false:=by rw [beq_eq_false_iff_ne]; exact hz
     have hzn:(x0 != y0)=true:=by rw [bne_iff_ne]; exact hz
     obtain rfl:=HN.out (ne_at hx hy (fun e=>hz (congrArg Prod.fst e)))
     clear hx hy HX
     go_wp2_with fail
     go_quiet (fail)
     go_wp2_with fail
     go_ret
     refine ⟨rfl,?_⟩
     obtain ⟨m,hm⟩:=HKR.out
     exact ⟨m+nq,by rw [hm,World.drewN_drewN]⟩
   ·obtain rfl:k=xs.length:=by omega
    obtain rfl:=HT.out (by have:=HX.out; rwa [List.take_length,HL.out,List.take_length] at this)
    clear HX HT HN HKK
    go_wp2_with fail
    go_ret
    exact ⟨rfl,HKR.out⟩
 ·have hlb:((xs.length:Int) == (ys.length:Int))=false:=by rw [beq_eq_false_iff_ne]; omega
  obtain rfl:=HN.out (fun e=>hlen (by rw [e]))
  go_enter Tryz.func47,Tryz.ntmps47
  go_wp2_with fail
  go_ret
  exact ⟨rfl,0,rfl⟩
set_option maxRecDepth 100000 in
set_option maxHeartbeats 3200000 in
theorem pairs4_any (v v':Value) (xs ys:List Pr) (w:World) (hv:Prs w v xs) (hv':Prs w v' ys) (hl:xs.length≤1100000) (hl':ys.length≤1100000) :
  Calls Tryz.prog 48 #[v,v'] w fun e w'=>e=.returned (.bool (decide (xs=ys)))∧∃ m,w'=w.drewN m:=by
 have HV:=Lib.hid hv
 have HV2:=Lib.hid hv'
 obtain ⟨a,c,rfl,hc⟩:=(show ∃ a c,v=.slice a xs.length c∧xs.length≤c by obtain ⟨a,c,e,l,_⟩:=hv; exact ⟨a,c,e,l⟩)
 obtain ⟨b,d,rfl,hd⟩:=(show ∃ a c,v'=.slice a ys.length c∧ys.length≤c by obtain ⟨a,c,e,l,_⟩:=hv'; exact ⟨a,c,e,l⟩)
 have HT:Hid (xs=ys→decide (xs=ys)=true):=fun h=>decide_eq_true h
 have HN:Hid (xs≠ys→decide (xs=ys)=false):=fun h=>decide_eq_false h
 generalize decide (xs=ys)=R at *
 clear hv hv'
 by_cases hlen:xs.length=ys.length
 ·have hlb:((xs.length:Int) == (ys.length:Int))=true:=by simp [hlen]
  have hln:((xs.length:Int) != (ys.length:Int))=false:=by simp [hlen]
  have HL:=Lib.hid hlen
  clear hlen
  go_enter Tryz.func48,Tryz.ntmps48
  go_wp2_with fail
  go_loopw [5] (fun i wr=>∃ k:Nat,k≤xs.length∧i=.int .i64 k∧Hid (xs.take k=ys.take k)∧Hid (∃ m,wr=w.drewN m)) (fun i _=>xs.length - (intOf i).toNat)
  case atStart=>exact ⟨0,Nat.zero_le _,rfl,(by show xs.take 0=ys.take 0; simp),0,rfl⟩
  case round =>
   clear hlb hln
   obtain ⟨k,hk,rfl,HX,HKR⟩:=hrel
   have HKK:Hid (Kept w wr):=by obtain ⟨m,hm⟩:=HKR.out; rw [hm]; exact kept_drewN _ _
   by_cases hlt:k<xs.length
   ·have hlt2:k<ys.length:=by have:=HL.out; omega
    obtain ⟨x,hx⟩:∃ z,xs[k]? = some z:=⟨_,List.getElem?_eq_getElem hlt⟩
    obtain ⟨y,hy⟩:∃ z,ys[k]? = some z:=⟨_,List.getElem?_eq_getElem hlt2⟩
    obtain ⟨g,o,rfl,hg,c0,c1⟩:=prs_at (HV.out.kept HKK.out) k x hx
    obtain ⟨g2,o2,rfl,hg2,d0,d1⟩:=prs_at (HV2.out.kept HKK.out) k y hy
    obtain ⟨x0,x1⟩:=x
    obtain ⟨y0,y1⟩:=y
    simp only at c0 d0 c1 d1
    clear HKK
    by_cases hz:x0=y0
    ·subst hz
     by_cases hz:x1=y1
     ·subst hz
      have HX2:=Lib.hid (take_eq_succ hx hy HX.out)
      clear hx hy HX
      go_wp2_with fail
      go_quiet (fail)
      go_wp2_with fail
      go_roundw
      case rel=>exact ⟨k+1,by omega,by go_num,HX2.out,by obtain ⟨m,hm⟩:=HKR.out; exact ⟨m+nq,by rw [hm,World.drewN_drewN]⟩⟩
      case measure=>simp [intOf]; omega
     ·have hzb:(x1 == y1)=false:=by rw [beq_eq_false_iff_ne]; exact hz
      have hzn:(x1 != y1)=true:=by rw [bne_iff_ne]; exact hz
      obtain rfl:=HN.out (ne_at hx hy (fun e=>hz (congrArg Prod.snd e)))
      clear hx hy HX
      go_wp2_with fail
      go_quiet (fail)
      go_wp2_with fail
      go_ret
      refine ⟨rfl,?_⟩
      obtain ⟨m,hm⟩:=HKR.out
      exact ⟨m+nq,by rw [hm,World.drewN_drewN]⟩
    ·have hzb:(x0 == y0)=false:=by rw [beq_eq_false_iff_ne]; exact hz
     have hzn:(x0 != y0)=true:=by rw [bne_iff_ne]; exact hz
     obtain rfl:=HN.out (ne_at hx hy (fun e=>hz (congrArg Prod.fst e)))
     clear hx hy HX
     go_wp2_with fail
     go_quiet (fail)
     go_wp2_with fail
     go_ret
     refine ⟨rfl,?_⟩
     obtain ⟨m,hm⟩:=HKR.out
     exact ⟨m+nq,by rw [hm,World.drewN_drewN]⟩
   ·obtain rfl:k=xs.length:=by omega
    obtain rfl:=HT.out (by have:=HX.out; rwa [List.take_length,HL.out,List.take_length] at this)
    clear HX HT HN HKK
    go_wp2_with fail
    go_ret
    exact ⟨rfl,HKR.out⟩
 ·have hlb:((xs.length:Int) == (ys.length:Int))=false:=by rw [beq_eq_false_iff_ne]; omega
  obtain rfl:=HN.out (fun e=>hlen (by rw [e]))
  go_enter Tryz.func48,Tryz.ntmps48
  go_wp2_with fail
  go_ret
  exact ⟨rfl,0,rfl⟩
/-- Where a source lies. -/
theorem Srcs.at_ {w:World} {a:Option Addr} {n c:Nat} {ss:List SrcT} (h:Srcs w (.slice a n c) ss) (j:Nat) (s:SrcT) (hq:ss[j]? = some s) :
  ∃ g o vA vE vF,a=some ⟨g,o,none⟩∧g<w.heap.size∧w.cell? ⟨g,o+j * 5,none⟩=some (.string (bs s.key))∧w.cell? ⟨g,o+j * 5+1,none⟩=some (.string (bs s.type))∧w.cell? ⟨g,o+j * 5+2,none⟩=some vA∧w.cell? ⟨g,o+j * 5+3,none⟩=some vE∧w.cell? ⟨g,o+j * 5+4,none⟩=some vF ∧
   Perss w vA s.author∧Perss w vE s.editor∧Prs w vF s.fields:=by
 obtain ⟨a',c',hv,hc,h3⟩:=h
 obtain ⟨rfl,rfl,rfl⟩:=Value.slice.inj hv
 obtain ⟨hk,_⟩:=List.getElem?_eq_some_iff.1 hq
 obtain ⟨g,o,ha,hg,hcell⟩:=h3 (by omega)
 obtain ⟨vA,vE,vF,d⟩:=hcell j s hq
 exact ⟨g,o,vA,vE,vF,ha,hg,d⟩
def eqS (s t:SrcT):Bool:=s.key == t.key && (s.type == t.type && (decide (s.author=t.author) && (decide (s.editor=t.editor) && decide (s.fields=t.fields))))
theorem eqS_iff (s t:SrcT):eqS s t=true↔s=t:=by
 obtain ⟨a,b,c,d,e⟩:=s
 obtain ⟨a',b',c',d',e'⟩:=t
 simp [eqS]
instance instDecSrcT:DecidableEq SrcT:=fun s t=>decidable_of_iff _ (eqS_iff s t)
set_option maxRecDepth 100000 in
set_option maxHeartbeats 12800000 in
theorem sources32_any (v v':Value) (xs ys:List SrcT) (w:World) (hv:Srcs w v xs) (hv':Srcs w v' ys) (hl:xs.length≤1100000) (hl':ys.length≤1100000)
  (hx:∀ s∈xs,s.author.length≤1100000∧s.editor.length≤1100000∧s.fields.length≤1100000) (hy:∀ s∈ys,s.author.length≤1100000∧s.editor.length≤1100000∧s.fields.length≤1100000) :
  Calls Tryz.prog 17 #[v,v'] w fun e w'=>e=.returned (.bool (decide (xs=ys)))∧Kept w w':=by
 have HV:=Lib.hid hv
 have HV2:=Lib.hid hv'
 have HFX:=Lib.hid hx
 have HFY:=Lib.hid hy
 obtain ⟨a,c,rfl,hc⟩:=(show ∃ a c,v=.slice a xs.length c∧xs.length≤c by obtain ⟨a,c,e,l,_⟩:=hv; exact ⟨a,c,e,l⟩)
 obtain ⟨b,d,rfl,hd⟩:=(show ∃ a c,v'=.slice a ys.length c∧ys.length≤c by obtain ⟨a,c,e,l,_⟩:=hv'; exact ⟨a,c,e,l⟩)
 have HT:Hid (xs=ys→decide (xs=ys)=true):=fun h=>decide_eq_true h
 have HN:Hid (xs≠ys→decide (xs=ys)=false):=fun h=>decide_eq_false h
 generalize decide (xs=ys)=R at *
 clear hv hv' hx hy
 by_cases hlen:xs.length=ys.length
 ·have hlb:((xs.length:Int) == (ys.length:Int))=true:=by simp [hlen]
  have hln:((xs.length:Int) != (ys.length:Int))=false:=by simp [hlen]
  have HL:=Lib.hid hlen
  clear hlen
  go_enter Tryz.func17,Tryz.ntmps17
  go_wp2_with fail
  go_loopw [5] (fun i wr=>∃ k:Nat,k≤xs.length∧i=.int .i64 k∧Hid (xs.take k=ys.take k)∧Hid (Kept w wr)) (fun i _=>xs.length - (intOf i).toNat)
  case atStart=>exact ⟨0,Nat.zero_le _,rfl,(by show xs.take 0=ys.take 0; simp),Kept.refl _⟩
  case round =>
   clear hlb hln
   obtain ⟨k,hk,rfl,HX,HKR⟩:=hrel
   by_cases hlt:k<xs.length
   ·have hlt2:k<ys.length:=by have:=HL.out; omega
    obtain ⟨x,hx⟩:∃ z,xs[k]? = some z:=⟨_,List.getElem?_eq_getElem hlt⟩
    obtain ⟨y,hy⟩:∃ z,ys[k]? = some z:=⟨_,List.getElem?_eq_getElem hlt2⟩
    obtain ⟨l1,l2,l3⟩:=HFX.out x (List.mem_of_getElem? hx)
    obtain ⟨m1,m2,m3⟩:=HFY.out y (List.mem_of_getElem? hy)
    obtain ⟨g,o,vA,vE,vF,rfl,hg,c0,c1,c2,c3,c4,pA,pE,pF⟩:=Srcs.at_ (HV.out.kept HKR.out) k x hx
    obtain ⟨g2,o2,uA,uE,uF,rfl,hg2,d0,d1,d2,d3,d4,qA,qE,qF⟩:=Srcs.at_ (HV2.out.kept HKR.out) k y hy
    have HNE:Hid (eqS x y=false→R=false):=fun h=>HN.out (ne_at hx hy (fun e=>by rw [(eqS_iff x y).2 e] at h; cases h))
    have HEQ:Hid (eqS x y=true→xs.take (k+1)=ys.take (k+1)):=fun h=>take_eq_succ hx (by rw [(eqS_iff x y).1 h]; exact hy) HX.out
    have HPA:=Lib.hid (fun n=>persons32_any vA uA x.author y.author (wr.drewN n) (pA.kept (kept_drewN wr n)) (qA.kept (kept_drewN wr n)) l1 m1)
    have HPE:=Lib.hid (fun n=>persons32_any vE uE x.editor y.editor (wr.drewN n) (pE.kept (kept_drewN wr n)) (qE.kept (kept_drewN wr n)) l2 m2)
    have HPF:=Lib.hid (fun n=>pairs4_any vF uF x.fields y.fields (wr.drewN n) (pF.kept (kept_drewN wr n)) (qF.kept (kept_drewN wr n)) l3 m3)
    unfold eqS at HNE HEQ
    generalize decide (x.author=y.author)=bA at *
    generalize decide (x.editor=y.editor)=bE at *
    generalize decide (x.fields=y.fields)=bF at *
    clear hx hy HX pA pE pF qA qE qF l1 l2 l3 m1 m2 m3
    obtain ⟨x0,x1,xa,xe,xf⟩:=x
    obtain ⟨y0,y1,ya,ye,yf⟩:=y
    simp only at c0 c1 d0 d1 HNE HEQ
    by_cases hz0:x0=y0
    ·subst hz0
     by_cases hz1:x1=y1
     ·subst hz1
      cases bA with
      | false =>
       obtain rfl:=HNE.out (by simp [])
       clear HNE HEQ HT HN
       go_wp2_with fail
       simp only [List.append]
       go_quiet ((first | (go_at_call_of 47 (vA); exact Calls.quiet_of (HPA.out _)) | (go_at_call_of 47 (vE); exact Calls.quiet_of (HPE.out _)) | (go_at_call 48; exact Calls.quiet_of (HPF.out _))))
       go_wp2_with fail
       go_ret
       exact ⟨rfl,HKR.out.trans (kept_drewN _ _)⟩
      | true =>
       cases bE with
       | false =>
        obtain rfl:=HNE.out (by simp [])
        clear HNE HEQ HT HN
        go_wp2_with fail
        simp only [List.append]
        go_quiet ((first | (go_at_call_of 47 (vA); exact Calls.quiet_of (HPA.out _)) | (go_at_call_of 47 (vE); exact Calls.quiet_of (HPE.out _)) | (go_at_call 48; exact Calls.quiet_of (HPF.out _))))
        go_wp2_with fail
        go_ret
        exact ⟨rfl,HKR.out.trans (kept_drewN _ _)⟩
       | true =>
        cases bF with
        | false =>
         obtain rfl:=HNE.out (by simp [])
         clear HNE HEQ HT HN
         go_wp2_with fail
         simp only [List.append]
         go_quiet ((first | (go_at_call_of 47 (vA); exact Calls.quiet_of (HPA.out _)) | (go_at_call_of 47 (vE); exact Calls.quiet_of (HPE.out _)) | (go_at_call 48; exact Calls.quiet_of (HPF.out _))))
         go_wp2_with fail
         go_ret
         exact ⟨rfl,HKR.out.trans (kept_drewN _ _)⟩
        | true =>
         have HX2:=Lib.hid (HEQ.out (by simp))
         clear HNE HEQ
         go_wp2_with fail
         simp only [List.append]
         go_quiet ((first | (go_at_call_of 47 (vA); exact Calls.quiet_of (HPA.out _)) | (go_at_call_of 47 (vE); exact Calls.quiet_of (HPE.out _)) | (go_at_call 48; exact Calls.quiet_of (HPF.out _))))
         go_wp2_with fail
         go_roundw
         case rel=>exact ⟨k+1,by omega,by go_num,HX2.out,HKR.out.trans (kept_drewN _ _)⟩
         case measure=>simp [intOf]; omega
     ·have hzb:(x1 == y1)=false:=by rw [beq_eq_false_iff_ne]; exact hz1
      have hzn:(x1 != y1)=true:=by rw [bne_iff_ne]; exact hz1
      obtain rfl:=HNE.out (by simp [hzb])
      clear HNE HEQ HT HN
      go_wp2_with fail
      simp only [List.append]
      go_quiet ((first | (go_at_call_of 47 (vA); exact Calls.quiet_of (HPA.out _)) | (go_at_call_of 47 (vE); exact Calls.quiet_of (HPE.out _)) | (go_at_call 48; exact Calls.quiet_of (HPF.out _))))
      go_wp2_with fail
      go_ret
      exact ⟨rfl,HKR.out.trans (kept_drewN _ _)⟩
    ·have hzb:(x0 == y0)=false:=by rw [beq_eq_false_iff_ne]; exact hz0
     have hzn:(x0 != y0)=true:=by rw [bne_iff_ne]; exact hz0
     obtain rfl:=HNE.out (by simp [hzb])
     clear HNE HEQ HT HN
     go_wp2_with fail
     simp only [List.append]
     go_quiet ((first | (go_at_call_of 47 (vA); exact Calls.quiet_of (HPA.out _)) | (go_at_call_of 47 (vE); exact Calls.quiet_of (HPE.out _)) | (go_at_call 48; exact Calls.quiet_of (HPF.out _))))
     go_wp2_with fail
     go_ret
     exact ⟨rfl,HKR.out.trans (kept_drewN _ _)⟩
   ·obtain rfl:k=xs.length:=by omega
    obtain rfl:=HT.out (by have:=HX.out; rwa [List.take_length,HL.out,List.take_length] at this)
    clear HX HT HN
    go_wp2_with fail
    go_ret
    exact ⟨rfl,HKR.out⟩
 ·have hlb:((xs.length:Int) == (ys.length:Int))=false:=by rw [beq_eq_false_iff_ne]; omega
  obtain rfl:=HN.out (fun e=>hlen (by rw [e]))
  go_enter Tryz.func17,Tryz.ntmps17
  go_wp2_with fail
  go_ret
  exact ⟨rfl,Kept.refl _⟩
end Go.Proofs.YtmcoomlkbgiboaaGreatDoor

/- few of law32: where it answers true, the sources and the style are few and short. Conditions: lengths that a machine can tell. -/
set_option linter.all false
namespace Go.Proofs.YtmcoomlkbgiboaaGreatDoor
open Go.RowKit

theorem take_allZ {α:Type} {P:α→Prop} {l:List α} {k:Nat} {x:α} (hx:l[k]? = some x) (h:∀ y∈l.take k,P y) (hp:P x):∀ y∈l.take (k+1),P y:=by
 intro y hy
 obtain ⟨hk',rfl⟩:=List.getElem?_eq_some_iff.1 hx
 rw [List.take_succ_eq_append_getElem hk'] at hy
 rcases List.mem_append.1 hy with q | q
 ·exact h y q
 ·simp at q; subst q; exact hp
theorem pers_formZ {w:World} {v:Value} {ps:List P4} (h:Perss w v ps):∃ a c,v=.slice a ps.length c∧ps.length≤c:=by
 obtain ⟨a,c,hv,hc,_⟩:=h; exact ⟨a,c,hv,hc⟩
theorem wrap_lenZ (n:Int) (h0 : -9223372036854775808≤n) (h1:n≤9223372036854775807):IntKind.i64.wrap n=n:=IntWalk.i64_in n (by omega)
def FewP (l:List SrcT) (y:StyT) (w:World) (e:Ending) (w':World):Prop:=∃ b:Bool,e=.returned (.bool b)∧(b=true→l.length≤8∧(∀ s∈l,FitL s)∧FewY y)∧Kept w w'
theorem FewP.no {l:List SrcT} {y:StyT} {w w':World} (k:Kept w w'):FewP l y w (.returned (.bool false)) w':=⟨false,rfl,(fun h=>by cases h),k⟩
set_option maxRecDepth 100000 in
set_option maxHeartbeats 12800000 in
theorem few32_any (l:List SrcT) (y:StyT) (v vE:Value) (w:World) (hv:Srcs w v l) (hE:Prs w vE y.entries) (hl:l.length≤140737488355328) (hfs:∀ s∈l,FitS s) (hfy:FitY y) :
  Calls Tryz.prog 14 #[v,styV vE y] w (FewP l y w):=by
 have HE:=Lib.hid hE
 have HV:=Lib.hid hv
 have HFS:=Lib.hid hfs
 obtain ⟨y1,y2,y3,y4,y5,y6,y7,y8,y9,y10⟩:=hfy
 have HY10:=Lib.hid y10
 clear y10 hfs
 obtain ⟨aE,cE,rfl,zE⟩:=hE.form
 obtain ⟨a,c,rfl,zV⟩:=(show ∃ a c,v=.slice a l.length c∧l.length≤c by obtain ⟨a,c,e,q,_⟩:=hv; exact ⟨a,c,e,q⟩)
 clear hE hv
 have HNO:Hid (∀ w',Kept w w'→FewP l y w (.returned (.bool false)) w'):=fun w' k=>FewP.no k
 have HYES:Hid (∀ w',l.length≤8→(∀ s∈l,FitL s)→FewY y→Kept w w'→FewP l y w (.returned (.bool true)) w'):=fun w' h1 h2 h3 k=>⟨true,rfl,(fun _=>⟨h1,h2,h3⟩),k⟩
 have HBK:=Lib.hid (Blk.new w 33 (styCells (.slice aE y.entries.length cE) y))
 have HK0:=Lib.hid (kept_alloc w (.cells (styCells (.slice aE y.entries.length cE) y) 33))
 unfold styV
 unfold styCells at HBK HK0 ⊢
 generalize hP:FewP l y w=P at *
 clear hP
 obtain ⟨s1,HS1⟩:∃ s:Int,Hid ((y.cite.length:Int)+(y.bare.length:Int)=s):=⟨_,rfl⟩
 obtain ⟨s2,HS2⟩:∃ s:Int,Hid (s1+(y.between.length:Int)=s):=⟨_,rfl⟩
 obtain ⟨s3,HS3⟩:∃ s:Int,Hid (s2+(y.begin_.length:Int)=s):=⟨_,rfl⟩
 obtain ⟨s4,HS4⟩:∃ s:Int,Hid (s3+(y.end_.length:Int)=s):=⟨_,rfl⟩
 obtain ⟨s5,HS5⟩:∃ s:Int,Hid (s4+(y.sort.length:Int)=s):=⟨_,rfl⟩
 obtain ⟨s6,HS6⟩:∃ s:Int,Hid (s5+(y.name.length:Int)=s):=⟨_,rfl⟩
 have e1:IntKind.i64.wrap ((y.cite.length:Int)+(y.bare.length:Int))=s1:=by rw [wrap_lenZ _ (by omega) (by omega)]; exact HS1.out
 have e2:IntKind.i64.wrap (s1+(y.between.length:Int))=s2:=by have:=HS1.out; rw [wrap_lenZ _ (by omega) (by omega)]; exact HS2.out
 have e3:IntKind.i64.wrap (s2+(y.begin_.length:Int))=s3:=by have:=HS1.out; have:=HS2.out; rw [wrap_lenZ _ (by omega) (by omega)]; exact HS3.out
 have e4:IntKind.i64.wrap (s3+(y.end_.length:Int))=s4:=by have:=HS1.out; have:=HS2.out; have:=HS3.out; rw [wrap_lenZ _ (by omega) (by omega)]; exact HS4.out
 have e5:IntKind.i64.wrap (s4+(y.sort.length:Int))=s5:=by have:=HS1.out; have:=HS2.out; have:=HS3.out; have:=HS4.out; rw [wrap_lenZ _ (by omega) (by omega)]; exact HS5.out
 have e6:IntKind.i64.wrap (s5+(y.name.length:Int))=s6:=by have:=HS1.out; have:=HS2.out; have:=HS3.out; have:=HS4.out; have:=HS5.out; rw [wrap_lenZ _ (by omega) (by omega)]; exact HS6.out
 by_cases g1:8<l.length
 ·go_enter Tryz.func14,Tryz.ntmps14
  go_wp2_with fail
  exact HNO.out _ HK0.out
 by_cases g2:12<y.entries.length
 ·go_enter Tryz.func14,Tryz.ntmps14
  go_wp2_with fail
  exact HNO.out _ HK0.out
 by_cases g3:400<s6
 ·go_enter Tryz.func14,Tryz.ntmps14
  go_wp2_with fail
  exact HNO.out _ HK0.out
 have HG3:Hid (y.cite.length+y.bare.length+y.between.length+y.begin_.length+y.end_.length+y.sort.length+y.name.length≤400):=by
  have:=HS1.out; have:=HS2.out; have:=HS3.out; have:=HS4.out; have:=HS5.out; have:=HS6.out
  show _≤_
  omega
 go_enter Tryz.func14,Tryz.ntmps14
 go_wp2_with fail
 clear e1 e2 e3 e4 e5 e6 HS1 HS2 HS3 HS4 HS5 HS6 g3
 generalize w.alloc _=W0 at *
 obtain ⟨S,HSS⟩:∃ S,Hid (w.heap.size=S):=⟨_,rfl⟩
 rw [HSS.out] at HBK ⊢
 go_loopw [5] (fun i wr=>∃ k:Nat,k≤y.entries.length∧i=.int .i64 k∧Hid (∀ q∈y.entries.take k,q.1.length+q.2.length≤300)∧Hid (Kept W0 wr)) (fun i _=>y.entries.length - (intOf i).toNat)
 case atStart=>exact ⟨0,Nat.zero_le _,rfl,(fun q h=>by simp at h),Kept.refl _⟩
 case round =>
  obtain ⟨k,hk,rfl,HN,HKR⟩:=hrel
  have t9:wr.cell? ⟨S,9,none⟩=some (.slice aE y.entries.length cE):=(HBK.out.kept HKR.out).cell 9 _ rfl
  have zS:=(HBK.out.kept HKR.out).lt
  by_cases hlt:k<y.entries.length
  ·obtain ⟨q,hx⟩:∃ x,y.entries[k]? = some x:=⟨_,List.getElem?_eq_getElem hlt⟩
   obtain ⟨q1l,q2l⟩:=HY10.out q (List.mem_of_getElem? hx)
   obtain ⟨g,o,rfl,hg',d0,d1,-,-⟩:=(HE.out.kept (HK0.out.trans HKR.out)).cell_of k q hx
   have HST:=Lib.hid (fun hp=>take_allZ (P:=fun q:Pr=>q.1.length+q.2.length≤300) hx HN.out hp)
   obtain ⟨p1,p2⟩:=q
   simp only at d0 d1 q1l q2l
   clear hx
   have hk0:(0:Int)≤(k:Int):=by omega
   have hk1:(k:Int)<(y.entries.length:Int):=by omega
   have hk2:((k:Int)).toNat=k:=by omega
   obtain ⟨s1,HS1⟩:∃ s:Int,Hid ((p1.length:Int)+(p2.length:Int)=s):=⟨_,rfl⟩
   have e1:IntKind.i64.wrap ((p1.length:Int)+(p2.length:Int))=s1:=by rw [wrap_lenZ _ (by omega) (by omega)]; exact HS1.out
   by_cases hbig:300<s1
   ·have hd:decide ((300:Int)<s1)=true:=decide_eq_true hbig
    go_wp2_with fail
    go_quiet (fail)
    go_wp2_with fail
    exact HNO.out _ (HK0.out.trans (HKR.out.trans (kept_drewN _ _)))
   ·have hd:decide ((300:Int)<s1)=false:=decide_eq_false hbig
    have HS5:=Lib.hid (HST.out (by have h1:=HS1.out; show p1.length+p2.length≤300; omega))
    go_wp2_with fail
    go_quiet (fail)
    go_wp2_with fail
    go_roundw
    case rel=>exact ⟨k+1,by omega,by go_num,HS5.out,HKR.out.trans (kept_drewN _ _)⟩
    case measure=>simp [intOf]; omega
  ·have HFY:Hid (FewY y):=⟨by omega,HG3.out,(by have h:=HN.out; rw [List.take_of_length_le (by omega)] at h; exact h),y8⟩
   have HKY:=Lib.hid (HK0.out.trans HKR.out)
   clear HN HG3 HBK HE HY10
   go_wp2_with fail
   clear t9 zS HKR
   obtain ⟨wo,rfl⟩:∃ wo:World,wo=wr:=⟨_,rfl⟩
   go_loopw [6] (fun i wr=>∃ k:Nat,k≤l.length∧i=.int .i64 k∧Hid (∀ s∈l.take k,FitL s)∧Hid (Kept wo wr)) (fun i _=>l.length - (intOf i).toNat)
   case atStart=>exact ⟨0,Nat.zero_le _,rfl,(fun q h=>by simp at h),Kept.refl _⟩
   case round =>
    obtain ⟨k,hk,rfl,HN,HKR⟩:=hrel
    by_cases hlt:k<l.length
    ·obtain ⟨s,hx⟩:∃ x,l[k]? = some x:=⟨_,List.getElem?_eq_getElem hlt⟩
     obtain ⟨l1,l2,l3,l4,l5,l6,l7⟩:=HFS.out s (List.mem_of_getElem? hx)
     have HL6:=Lib.hid l6
     have HL7:=Lib.hid l7
     have HST:=Lib.hid (fun hp=>take_allZ (P:=FitL) hx HN.out hp)
     have HKX:=Lib.hid (HKY.out.trans HKR.out)
     obtain ⟨g,o,vA,vD,vF,rfl,hgg,d0,d1,d2,d3,d4,hA,hD,hF⟩:=Srcs.at_ (HV.out.kept HKX.out) k s hx
     clear l6 l7 hx
     obtain ⟨aA,cA,rfl,zA⟩:=pers_formZ hA
     obtain ⟨aD,cD,rfl,zD⟩:=pers_formZ hD
     obtain ⟨aF,cF,rfl,zF⟩:=hF.form
     have HBS:=Lib.hid (Blk.new wr 50 #[.string (bs s.key),.string (bs s.type),.slice aA s.author.length cA,.slice aD s.editor.length cD,.slice aF s.fields.length cF])
     have hks:=kept_alloc wr (.cells #[.string (bs s.key),.string (bs s.type),.slice aA s.author.length cA,.slice aD s.editor.length cD,.slice aF s.fields.length cF] 50)
     have HA:=Lib.hid (hA.kept hks)
     have HD:=Lib.hid (hD.kept hks)
     have HF:=Lib.hid (hF.kept hks)
     have HKS:=Lib.hid hks
     clear hA hD hF hks
     by_cases n1:5<s.author.length
     ·go_wp2_with fail
      exact HNO.out _ (HKX.out.trans HKS.out)
     by_cases n2:5<s.editor.length
     ·go_wp2_with fail
      exact HNO.out _ (HKX.out.trans HKS.out)
     by_cases n3:12<s.fields.length
     ·go_wp2_with fail
      exact HNO.out _ (HKX.out.trans HKS.out)
     by_cases n4:200<s.key.length+s.type.length
     ·have n4':(200:Int)<(s.key.length:Int)+(s.type.length:Int):=by omega
      go_wp2_with fail
      exact HNO.out _ (HKX.out.trans HKS.out)
     have n4':¬ (200:Int)<(s.key.length:Int)+(s.type.length:Int):=by omega
     go_wp2_with fail
     clear d0 d1 d2 d3 d4
     have HKW:=Lib.hid (HKR.out.trans HKS.out)
     generalize wr.alloc _=W1 at *
     obtain ⟨B,HBB⟩:∃ B,Hid (wr.heap.size=B):=⟨_,rfl⟩
     rw [HBB.out] at HBS ⊢
     go_loopw [8] (fun i wq=>∃ j:Nat,j≤s.fields.length∧i=.int .i64 j∧Hid (∀ q∈s.fields.take j,q.1.length+q.2.length≤200)∧Hid (Kept W1 wq)) (fun i _=>s.fields.length - (intOf i).toNat)
     case atStart=>exact ⟨0,Nat.zero_le _,rfl,(fun q h=>by simp at h),Kept.refl _⟩
     case round =>
      obtain ⟨j,hj,rfl,HNF,HKF⟩:=hrel
      have t4:wr.cell? ⟨B,4,none⟩=some (.slice aF s.fields.length cF):=(HBS.out.kept HKF.out).cell 4 _ rfl
      have zB:=(HBS.out.kept HKF.out).lt
      by_cases hlt2:j<s.fields.length
      ·obtain ⟨q,hx⟩:∃ x,s.fields[j]? = some x:=⟨_,List.getElem?_eq_getElem hlt2⟩
       obtain ⟨q1l,q2l⟩:=HL6.out q (List.mem_of_getElem? hx)
       obtain ⟨g,o,rfl,hg',d0,d1,-,-⟩:=(HF.out.kept HKF.out).cell_of j q hx
       have HST2:=Lib.hid (fun hp=>take_allZ (P:=fun q:Pr=>q.1.length+q.2.length≤200) hx HNF.out hp)
       obtain ⟨p1,p2⟩:=q
       simp only at d0 d1 q1l q2l
       clear hx
       have hk0:(0:Int)≤(j:Int):=by omega
       have hk1:(j:Int)<(s.fields.length:Int):=by omega
       have hk2:((j:Int)).toNat=j:=by omega
       obtain ⟨s1,HS1⟩:∃ s:Int,Hid ((p1.length:Int)+(p2.length:Int)=s):=⟨_,rfl⟩
       have e1:IntKind.i64.wrap ((p1.length:Int)+(p2.length:Int))=s1:=by rw [wrap_lenZ _ (by omega) (by omega)]; exact HS1.out
       by_cases hbig:200<s1
       ·have hd:decide ((200:Int)<s1)=true:=decide_eq_true hbig
        go_wp2_with fail
        go_quiet (fail)
        go_wp2_with fail
        exact HNO.out _ (HKX.out.trans (HKS.out.trans (HKF.out.trans (kept_drewN _ _))))
       ·have hd:decide ((200:Int)<s1)=false:=decide_eq_false hbig
        have HS5:=Lib.hid (HST2.out (by have h1:=HS1.out; show p1.length+p2.length≤200; omega))
        go_wp2_with fail
        go_quiet (fail)
        go_wp2_with fail
        go_roundw
        case rel=>exact ⟨j+1,by omega,by go_num,HS5.out,HKF.out.trans (kept_drewN _ _)⟩
        case measure=>simp [intOf]; omega
      ·have HFA:Hid (∀ q∈s.fields,q.1.length+q.2.length≤200):=by have h:=HNF.out; rw [List.take_of_length_le (by omega)] at h; exact h
       have HKQ:=Lib.hid (HKW.out.trans HKF.out)
       have HKP:=Lib.hid (HKX.out.trans (HKS.out.trans HKF.out))
       have HBK2:=Lib.hid (HBS.out.kept HKF.out)
       have HA2:=Lib.hid (HA.out.kept HKF.out)
       have HD2:=Lib.hid (HD.out.kept HKF.out)
       clear HNF HBS HA HD HF HKF HL6
       go_wp2_with fail
       have b2:wr.cell? ⟨B,2,none⟩=some (.slice aA s.author.length cA):=HBK2.out.cell 2 _ rfl
       have b3:wr.cell? ⟨B,3,none⟩=some (.slice aD s.editor.length cD):=HBK2.out.cell 3 _ rfl
       have z4:=HBK2.out.lt
       clear t4 zB
       have HC:Hid (∀ w',Kept wr w'→w'.cell? ⟨B,2,none⟩=some (.slice aA s.author.length cA)∧w'.cell? ⟨B,3,none⟩=some (.slice aD s.editor.length cD)∧Kept wr w'):=fun w' h=>⟨(h.cell (p:=⟨B,2,none⟩) z4).trans b2,(h.cell (p:=⟨B,3,none⟩) z4).trans b3,h⟩
       have k0:Kept wr (wr.alloc (.cells #[] 77)).drew:=(kept_alloc wr _).trans (kept_drewN _ 1)
       have k00:Kept wr wr.drew:=kept_drewN wr 1
       have HO0:=Lib.hid (World.ownsRow_made (size:=4) (e:=77) wr #[] 0 (Nat.le_refl _) (by unfold maxLen; omega) (by simp)).drew
       have hsum:s.author.length+s.editor.length≤80:=by omega
       go_region_held3 (fun w'=>w'.cell? ⟨B,2,none⟩=some (.slice aA s.author.length cA)∧w'.cell? ⟨B,3,none⟩=some (.slice aD s.editor.length cD)∧Kept wr w')
        ((refine HC.out _ ?_; with_reducible assumption))
        (first
         | (refine step_append_persY _ rfl (.tmp 135) (.tmp 137) rfl wr.heap.size v1 s.author (by simp [Act.eval,Act.put]) HO1.out _ s.editor (by simp [Act.eval,Act.put]) (HD2.out.kept k1) (by omega) k1.size ?_; intro v2 w2 hown2 hgrow2; have HO2:=Lib.hid hown2; have k2:Kept wr w2:=k1.trans' (grown_below HO1.out hgrow2 k1.size); clear hown2 hgrow2)
         | (refine step_append_persY _ rfl (.tmp 132) (.tmp 134) rfl wr.heap.size _ [] (by simp [Act.eval,Act.put]) HO0.out _ s.author (by simp [Act.eval,Act.put]) (HA2.out.kept k0) (by simp; omega) k0.size ?_; intro v1 w1 hown1 hgrow1; have HO1:Hid (w1.ownsRow wr.heap.size 77 4 v1 s.author.length (persCY s.author)):=hown1; have k1:Kept wr w1:=k0.trans' (grown_below HO0.out hgrow1 k0.size); clear hown1 hgrow1))
       all_goals
        have HV2:=Lib.hid (Perss.ownY HO2.out)
        obtain ⟨a2,c2,rfl,hc2⟩:=pers_formZ HV2.out
        have hln:(s.author ++ s.editor).length≤80:=by rw [List.length_append]; omega
        have HKZ:=Lib.hid (HKP.out.trans k2)
        have HKY2:=Lib.hid (HKQ.out.trans k2)
        have HFT:Hid ((∀ q∈s.author ++ s.editor,size4 q≤200)→FitL s):=by
         show _→_
         intro hp
         exact ⟨by omega,by omega,by omega,by omega,HFA.out,hp⟩
        clear k0 k00 k1 k2 HO0 HO1 HO2 b2 b3 z4 HC hsum HKP HKQ HA2 HD2 HBK2
        obtain ⟨ps,HPS⟩:∃ ps,Hid (s.author ++ s.editor=ps):=⟨_,rfl⟩
        rw [HPS.out] at HV2 HL7 hln hc2 HFT ⊢
        go_wp2_with fail
        go_loopw [10] (fun i wz=>∃ m:Nat,m≤ps.length∧i=.int .i64 m∧Hid (∀ q∈ps.take m,size4 q≤200)∧Hid (Kept w2 wz)) (fun i _=>ps.length - (intOf i).toNat)
        case atStart=>exact ⟨0,Nat.zero_le _,rfl,(fun q h=>by simp at h),Kept.refl _⟩
        case round =>
         obtain ⟨m,hm,rfl,HNP,HKG⟩:=hrel
         by_cases hlt3:m<ps.length
         ·obtain ⟨q,hx⟩:∃ x,ps[m]? = some x:=⟨_,List.getElem?_eq_getElem hlt3⟩
          obtain ⟨q1l,q2l,q3l,q4l⟩:=HL7.out q (List.mem_of_getElem? hx)
          obtain ⟨a',c',hv',hc',h3⟩:=HV2.out.kept HKG.out
          obtain ⟨rfl,hdead,rfl⟩:=Value.slice.inj hv'
          clear hdead hc'
          obtain ⟨g,o,rfl,hg',hcc⟩:=h3 (by omega)
          obtain ⟨d0,d1,d2,d3⟩:=hcc m q hx
          have HST3:=Lib.hid (fun hp=>take_allZ (P:=fun q=>size4 q≤200) hx HNP.out hp)
          have HSZ:Hid (size4 q=q.1.length+q.2.1.length+q.2.2.1.length+q.2.2.2.length):=rfl
          obtain ⟨p1,p2,p3,p4⟩:=q
          simp only at d0 d1 d2 d3 q1l q2l q3l q4l HSZ
          clear hcc h3 hv' hx
          have hk0:(0:Int)≤(m:Int):=by omega
          have hk1:(m:Int)<(ps.length:Int):=by omega
          have hk2:((m:Int)).toNat=m:=by omega
          obtain ⟨s1,HS1⟩:∃ s:Int,Hid ((p1.length:Int)+(p2.length:Int)=s):=⟨_,rfl⟩
          obtain ⟨s2,HS2⟩:∃ s:Int,Hid (s1+(p3.length:Int)=s):=⟨_,rfl⟩
          obtain ⟨s3,HS3⟩:∃ s:Int,Hid (s2+(p4.length:Int)=s):=⟨_,rfl⟩
          have e1:IntKind.i64.wrap ((p1.length:Int)+(p2.length:Int))=s1:=by rw [wrap_lenZ _ (by omega) (by omega)]; exact HS1.out
          have e2:IntKind.i64.wrap (s1+(p3.length:Int))=s2:=by have:=HS1.out; rw [wrap_lenZ _ (by omega) (by omega)]; exact HS2.out
          have e3:IntKind.i64.wrap (s2+(p4.length:Int))=s3:=by have:=HS1.out; have:=HS2.out; rw [wrap_lenZ _ (by omega) (by omega)]; exact HS3.out
          by_cases hbig:200<s3
          ·have hd:decide ((200:Int)<s3)=true:=decide_eq_true hbig
           go_wp2_with fail
           go_quiet (fail)
           go_wp2_with fail
           exact HNO.out _ (HKZ.out.trans (HKG.out.trans (kept_drewN _ _)))
          ·have hd:decide ((200:Int)<s3)=false:=decide_eq_false hbig
           have HS5:=Lib.hid (HST3.out (by have h1:=HS1.out; have h2:=HS2.out; have h3:=HS3.out; have h4:=HSZ.out; show size4 _≤200; omega))
           go_wp2_with fail
           go_quiet (fail)
           go_wp2_with fail
           go_roundw
           case rel=>exact ⟨m+1,by omega,by go_num,HS5.out,HKG.out.trans (kept_drewN _ _)⟩
           case measure=>simp [intOf]; omega
         ·have HPA2:Hid (∀ q∈ps,size4 q≤200):=by have h:=HNP.out; rw [List.take_of_length_le (by omega)] at h; exact h
          have HNX:=Lib.hid (HST.out (HFT.out HPA2.out))
          have HKN:=Lib.hid (HKY2.out.trans HKG.out)
          clear HNP HKG HFT HPA2
          go_wp2_with fail
          go_roundw
          case rel=>exact ⟨k+1,by omega,by go_num,HNX.out,HKN.out⟩
          case measure=>simp [intOf]; omega
    ·have HLA:Hid (∀ s∈l,FitL s):=by have h:=HN.out; rw [List.take_of_length_le (by omega)] at h; exact h
     go_wp2_with fail
     exact HYES.out _ (by omega) HLA.out HFY.out (HKY.out.trans HKR.out)
end Go.Proofs.YtmcoomlkbgiboaaGreatDoor
