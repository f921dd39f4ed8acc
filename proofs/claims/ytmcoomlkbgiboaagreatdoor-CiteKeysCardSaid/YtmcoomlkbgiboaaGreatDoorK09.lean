/- Clean text of one line. No condition. -/
import Derived.Test.YtmcoomlkbgiboaaGreatDoorK02
import Derived.Test.YtmcoomlkbgiboaaGreatDoorK06
import Derived.Test.YtmcoomlkbgiboaaGreatDoorK05
import Derived.Test.YtmcoomlkbgiboaaGreatDoorK07
import Derived.BigQuiet

set_option linter.all false
namespace Go.Proofs.YtmcoomlkbgiboaaGreatDoor
open Go.RowKit

def lineB (l:Bs):Bool:=validB (bs l) && !(l.contains 10)
end Go.Proofs.YtmcoomlkbgiboaaGreatDoor

/- Plain words on code points and clean text: a part of a text read alone. No condition. -/
set_option linter.all false
namespace Go.Proofs.YtmcoomlkbgiboaaGreatDoor
open Go.RowKit

theorem moreOf_shift (l:Bs) (i k:Nat) (a b:Int):moreOf (bs (l.drop i)) k a b=moreOf (bs l) (i+k) a b:=by
 unfold moreOf
 have e:byteAt (bs (l.drop i)) k=byteAt (bs l) (i+k):=by
  rw [byteAt_bs,byteAt_bs]; unfold at8; simp
 rw [e]
 have:((bs (l.drop i)).size≤k)↔((bs l).size≤i+k):=by simp; omega
 simp only [this]
theorem dec_shift (l:Bs) (i:Nat):dec (bs (l.drop i)) 0=dec (bs l) i:=by
 have e:byteAt (bs (l.drop i)) 0=byteAt (bs l) i:=by rw [byteAt_bs,byteAt_bs]; unfold at8; simp
 unfold dec three four
 rw [e]
 simp only [moreOf_shift,Nat.zero_add]
theorem at8_left (x t:Bs) (k:Nat) (h:k<x.length):at8 (x ++ t) k=at8 x k:=by
 unfold at8; rw [List.getD_eq_getElem?_getD,List.getD_eq_getElem?_getD,List.getElem?_append_left h]
theorem at8_right (x t:Bs):at8 (x ++ t) x.length=at8 t 0:=by
 unfold at8; rw [List.getD_eq_getElem?_getD,List.getD_eq_getElem?_getD,List.getElem?_append_right (Nat.le_refl _)]; simp
/-- A piece that ends before an ASCII letter, or at the end, is read as in the whole text. -/
theorem dec_cut (x t:Bs) (hx:0<x.length) (ht:t=[]∨at8 t 0<128):dec (bs (x ++ t)) 0=dec (bs x) 0:=by
 have e0:byteAt (bs (x ++ t)) 0=byteAt (bs x) 0:=by rw [byteAt_bs,byteAt_bs]; exact at8_left x t 0 hx
 have A:∀ k a b,k<x.length→moreOf (bs (x ++ t)) k a b=moreOf (bs x) k a b:=by
  intro k a b h
  unfold moreOf
  rw [byteAt_bs,byteAt_bs,at8_left x t k h]
  have:((bs (x ++ t)).size≤k)↔((bs x).size≤k):=by simp; omega
  simp only [this]
 have B:∀ k a b,k=x.length→128≤a→moreOf (bs (x ++ t)) k a b = -1:=by
  intro k a b h ha
  subst h
  unfold moreOf
  rw [if_pos]
  rcases ht with rfl | ht
  ·left; simp
  ·right; left; rw [byteAt_bs,at8_right]; omega
 have C:∀ k a b,x.length≤k→moreOf (bs x) k a b = -1:=by
  intro k a b h
  unfold moreOf
  rw [if_pos (.inl (by simpa using h))]
 have hl3:128≤low3 (byteAt (bs x) 0):=by unfold low3; split <;> omega
 have hl4:128≤low4 (byteAt (bs x) 0):=by unfold low4; split <;> omega
 unfold dec three four
 rw [e0]
 simp only [Nat.zero_add]
 rcases (show x.length=1∨x.length=2∨x.length=3∨4≤x.length by omega) with h | h | h | h
 ·simp only [B 1 _ _ h.symm (Int.le_refl _),B 1 _ _ h.symm hl3,B 1 _ _ h.symm hl4,C 1 _ _ (by omega)]
  simp
 ·simp only [A 1 _ _ (by omega),B 2 _ _ h.symm (Int.le_refl _),C 2 _ _ (by omega)]
  simp
 ·simp only [A 1 _ _ (by omega),A 2 _ _ (by omega),B 3 _ _ h.symm (Int.le_refl _),C 3 _ _ (by omega)]
 ·simp only [A 1 _ _ (by omega),A 2 _ _ (by omega),A 3 _ _ (by omega)]

theorem valid_drop (x:Bs) (m k:Nat) (hk:x.length - k≤m):validFrom (bs x) k=validB (bs (x.drop k)):=by
 induction m generalizing x k with
 | zero =>
  rw [validFrom_out _ _ (by simp; omega)]
  unfold validB
  rw [validFrom_out _ _ (by simp; omega)]
 | succ m ihm =>
  by_cases hkx:k<x.length
  ·have hbx:=dec_bounds (bs x) k (by simpa using hkx)
   unfold validB
   rw [validFrom_in _ _ (by simpa using hkx),validFrom_in (bs (x.drop k)) 0 (by simp; omega),dec_shift,Nat.zero_add]
   congr 1
   rw [ihm x _ (by omega),ihm (x.drop k) _ (by simp; omega),List.drop_drop]
  ·rw [validFrom_out _ _ (by simpa using hkx)]
   unfold validB
   rw [validFrom_out _ _ (by simp; omega)]
theorem valid_cons (l:Bs) (h:0<l.length):validB (bs l)=(goodPt (dec (bs l) 0) && validB (bs (l.drop (dec (bs l) 0).2.toNat))):=by
 rw [← valid_drop l _ _ (Nat.le_refl _)]
 conv=>lhs; unfold validB
 rw [validFrom_in _ _ (by simpa using h),Nat.zero_add]
theorem valid_nil:validB (bs [])=true:=validFrom_out _ _ (by simp)
/-- An ASCII byte that is no control byte parts a text. -/
theorem valid_at (c:UInt8) (hc:32≤(c.toNat:Int)∧(c.toNat:Int)<127) (b:Bs):∀ (n:Nat) (a:Bs),a.length≤n→validB (bs (a ++ c :: b))=(validB (bs a) && validB (bs b)):=by
 intro n
 induction n with
 | zero =>
  intro a ha
  obtain rfl:a=[]:=List.length_eq_zero_iff.1 (by omega)
  rw [List.nil_append,valid_cons (c :: b) (by simp),valid_nil]
  have e0:byteAt (bs (c :: b)) 0=(c.toNat:Int):=rfl
  have e:dec (bs (c :: b)) 0=((c.toNat:Int),1):=by unfold dec; rw [e0,if_pos (by omega)]
  rw [e]
  have g:goodPt ((c.toNat:Int),1)=true:=by
   have h1:cleanOf (c.toNat:Int)=true:=by unfold cleanOf; simp; omega
   have h2:((c.toNat:Int) == 65533)=false:=by rw [beq_eq_false_iff_ne]; omega
   simp only [goodPt,h1,h2]; rfl
  rw [g]; rfl
 | succ n ih =>
  intro a ha
  by_cases h0:a=[]
  ·exact (show a.length≤n→_ from ih a) (by simp [h0])
  ·have hl:=List.length_pos_iff.2 h0
   have hb:=dec_bounds (bs a) 0 (by simpa using hl)
   rw [valid_cons (a ++ c :: b) (by simp; omega),valid_cons a hl,dec_cut a (c :: b) hl (.inr (by show ((c.toNat:Int))<128; omega))]
   simp only [bs_size] at hb
   have e:(a ++ c :: b).drop (dec (bs a) 0).2.toNat=a.drop (dec (bs a) 0).2.toNat ++ c :: b:=List.drop_append_of_le_length (by omega)
   rw [e,ih _ (by simp; omega),Bool.and_assoc]

theorem line_nil:lineB []=true:=by unfold lineB; rw [valid_nil]; rfl
theorem line_at (c:UInt8) (hc:32≤(c.toNat:Int)∧(c.toNat:Int)<127) (a b:Bs):lineB (a ++ c :: b)=(lineB a && lineB b):=by
 unfold lineB
 rw [valid_at c hc b _ a (Nat.le_refl _)]
 have hne:(10 == c)=false:=by
  rw [beq_eq_false_iff_ne]; rintro rfl; simp at hc
 have e:(a ++ c :: b).contains 10=(a.contains 10 || b.contains 10):=by
  rw [List.contains_append,List.contains_cons,hne]; simp
 rw [e]
 cases validB (bs a) <;> cases validB (bs b) <;> cases a.contains 10 <;> cases b.contains 10 <;> rfl
end Go.Proofs.YtmcoomlkbgiboaaGreatDoor

/- Plain words on lines: clean texts, lines joined and parted again. No condition. -/
set_option linter.all false
namespace Go.Proofs.YtmcoomlkbgiboaaGreatDoor
open Go.RowKit

/-- Visible ASCII bytes ahead of a text. -/
theorem line_pre (a x:Bs) (h:∀ b∈a,32≤(b.toNat:Int)∧(b.toNat:Int)<127):lineB (a ++ x)=lineB x:=by
 induction a with
 | nil=>rfl
 | cons b a ih =>
  have:=line_at b (h b (by simp)) [] (a ++ x)
  rw [List.nil_append,line_nil,Bool.true_and] at this
  rw [List.cons_append,this]
  exact ih (fun c hc=>h c (by simp [hc]))
theorem line_asc (a:Bs) (h:∀ b∈a,32≤(b.toNat:Int)∧(b.toNat:Int)<127):lineB a=true:=by
 have:=line_pre a [] h
 rw [List.append_nil,line_nil] at this; exact this
end Go.Proofs.YtmcoomlkbgiboaaGreatDoor

/- letters, in, rule, with of publisherref25; Next of publisherref01 at any place. Conditions: lengths. -/
set_option linter.all false
namespace Go.Proofs.YtmcoomlkbgiboaaGreatDoor
open Go.RowKit

def IntsP (xs:List Int) (w:World) (e:Ending) (w':World):Prop:=∃ v,e=.returned v∧Ints w' v xs∧Kept w w'
end Go.Proofs.YtmcoomlkbgiboaaGreatDoor
