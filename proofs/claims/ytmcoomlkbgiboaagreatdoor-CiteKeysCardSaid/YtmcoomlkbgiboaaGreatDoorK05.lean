/- lines.Join. Conditions: lengths. -/
import Derived.Test.YtmcoomlkbgiboaaGreatDoorK03
import Derived.Test.YtmcoomlkbgiboaaGreatDoorK01

set_option linter.all false
namespace Go.Proofs.YtmcoomlkbgiboaaGreatDoor
open Go.RowKit

theorem byteCells_app (a b:Bs):Lib.byteCells (a ++ b)=Lib.byteCells a ++ Lib.byteCells b:=by simp [Lib.byteCells]

end Go.Proofs.YtmcoomlkbgiboaaGreatDoor

/- The plain law of one code point of a text: what the reference's ranges say is what the model's decoder says. No condition but that the place exists. -/
set_option linter.all false
namespace Go.Proofs.YtmcoomlkbgiboaaGreatDoor
open Go.RowKit

def moreOf (s:ByteArray) (i:Nat) (low high:Int):Int:=if s.size≤i∨byteAt s i<low∨high<byteAt s i then -1 else byteAt s i - 128
def low3 (b:Int):Int:=if b=224 then 160 else 128
def high3 (b:Int):Int:=if b=237 then 159 else 191
def low4 (b:Int):Int:=if b=240 then 144 else 128
def high4 (b:Int):Int:=if b=244 then 143 else 191
def three (s:ByteArray) (i:Nat):Int × Int :=
 if moreOf s (i+1) (low3 (byteAt s i)) (high3 (byteAt s i))<0∨moreOf s (i+2) 128 191<0 then (65533,1)
 else ((byteAt s i - 224) * 4096+moreOf s (i+1) (low3 (byteAt s i)) (high3 (byteAt s i)) * 64+moreOf s (i+2) 128 191,3)
def four (s:ByteArray) (i:Nat):Int × Int :=
 if moreOf s (i+1) (low4 (byteAt s i)) (high4 (byteAt s i))<0∨moreOf s (i+2) 128 191<0∨moreOf s (i+3) 128 191<0 then (65533,1)
 else ((byteAt s i - 240) * 262144+moreOf s (i+1) (low4 (byteAt s i)) (high4 (byteAt s i)) * 4096+moreOf s (i+2) 128 191 * 64+moreOf s (i+3) 128 191,4)
def dec (s:ByteArray) (i:Nat):Int × Int :=
 if byteAt s i<128 then (byteAt s i,1)
 else if 194≤byteAt s i∧byteAt s i≤223 then
  if 0≤moreOf s (i+1) 128 191 then ((byteAt s i - 192) * 64+moreOf s (i+1) 128 191,2) else (65533,1)
 else if 224≤byteAt s i∧byteAt s i≤239 then three s i
 else if 240≤byteAt s i∧byteAt s i≤244 then four s i
 else (65533,1)

theorem npair {a b c d:Nat} (h:a=c) (k:b=d):(a,b)=(c,d):=by rw [h,k]
theorem pair_ext {a b c d:Int} (h:a=c) (k:b=d):(a,b)=(c,d):=by rw [h,k]
theorem more_yes {s:ByteArray} {i:Nat} {l h:Int} (hh:0≤moreOf s i l h):i<s.size∧l≤byteAt s i∧byteAt s i≤h∧moreOf s i l h=byteAt s i - 128:=by
 unfold moreOf at hh ⊢; split at hh
 ·omega
 ·rw [if_neg (by assumption)]; omega

/-- The decoder over plain numbers: the four bytes, and which of the places exist. -/
def decN (b0 b1 b2 b3:Nat) (e1 e2 e3:Bool):Nat × Nat :=
 let cont (e:Bool) (b:Nat):Bool:=e && b / 64 == 2
 if b0<0x80 then (b0,1)
 else if b0 / 32 == 6 && cont e1 b1 then
  let c:=(b0 % 32) * 64+b1 % 64
  if c ≥ 0x80 then (c,2) else (Utf8.runeError,1)
 else if b0 / 16 == 14 && cont e1 b1 && cont e2 b2 then
  let c:=(b0 % 16) * 4096+(b1 % 64) * 64+b2 % 64
  if c ≥ 0x800 && Utf8.valid c then (c,3) else (Utf8.runeError,1)
 else if b0 / 8 == 30 && cont e1 b1 && cont e2 b2 && cont e3 b3 then
  let c:=(b0 % 8) * 262144+(b1 % 64) * 4096+(b2 % 64) * 64+b3 % 64
  if c ≥ 0x10000 && Utf8.valid c then (c,4) else (Utf8.runeError,1)
 else (Utf8.runeError,1)
theorem decode_decN (s:ByteArray) (i:Nat):Utf8.decode s i=decN (s.get! i).toNat (s.get! (i+1)).toNat (s.get! (i+2)).toNat (s.get! (i+3)).toNat (decide (i+1<s.size)) (decide (i+2<s.size)) (decide (i+3<s.size)):=rfl
set_option maxRecDepth 100000 in
theorem decN_two (b0 b1 b2 b3:Nat) (e1 e2 e3:Bool) (h:128≤b0∧b0<224) :
  decN b0 b1 b2 b3 e1 e2 e3=if 194≤b0∧e1=true∧128≤b1∧b1<192 then ((b0 - 192) * 64+(b1 - 128),2) else (65533,1):=by
 unfold decN
 rw [if_neg (by omega)]
 have h3:(b0 / 16 == 14)=false:=by simp; omega
 have h4:(b0 / 8 == 30)=false:=by simp; omega
 simp only [h3,h4,Bool.false_and,Bool.false_eq_true,if_false,Utf8.runeError]
 cases e1 <;> simp
 ·by_cases k:b0 / 32=6∧b1 / 64=2
  ·rw [if_pos k]
   by_cases q:194≤b0
   ·rw [if_pos (by omega),if_pos (by omega)]; apply npair <;> omega
   ·rw [if_neg (by omega),if_neg (by omega)]
  ·rw [if_neg k,if_neg (by omega)]
theorem valid_nat (c:Nat):Utf8.valid (c:Int)=decide (c<55296∨(57344≤c∧c≤1114111)):=by
 unfold Utf8.valid
 rw [Bool.eq_iff_iff]
 simp only [Bool.or_eq_true,Bool.and_eq_true,decide_eq_true_eq]
 omega
set_option maxRecDepth 100000 in
theorem decN_three (b0 b1 b2 b3:Nat) (e1 e2 e3:Bool) (h:224≤b0∧b0<240) :
  decN b0 b1 b2 b3 e1 e2 e3=if e1=true∧e2=true∧(b0=224→160≤b1)∧128≤b1∧(b0=237→b1≤159)∧b1≤191∧128≤b2∧b2<192 then ((b0 - 224) * 4096+(b1 - 128) * 64+(b2 - 128),3) else (65533,1):=by
 unfold decN
 rw [if_neg (by omega)]
 have h2:(b0 / 32 == 6)=false:=by simp; omega
 have h4:(b0 / 8 == 30)=false:=by simp; omega
 have h3:b0 / 16=14:=by omega
 simp only [h2,h4,h3,Bool.false_and,Bool.false_eq_true,if_false,Utf8.runeError,valid_nat]
 cases e1 <;> cases e2 <;> simp
 by_cases k:b1 / 64=2∧b2 / 64=2
 ·rw [if_pos k]
  split <;> split <;> first | (exfalso; omega) | (apply npair <;> omega)
 ·rw [if_neg k,if_neg (by omega)]
set_option maxRecDepth 100000 in
theorem decN_four (b0 b1 b2 b3:Nat) (e1 e2 e3:Bool) (h:240≤b0∧b0<256) :
  decN b0 b1 b2 b3 e1 e2 e3=if b0≤244∧e1=true∧e2=true∧e3=true∧(b0=240→144≤b1)∧128≤b1∧(b0=244→b1≤143)∧b1≤191∧128≤b2∧b2<192∧128≤b3∧b3<192 then ((b0 - 240) * 262144+(b1 - 128) * 4096+(b2 - 128) * 64+(b3 - 128),4) else (65533,1):=by
 unfold decN
 rw [if_neg (by omega)]
 have h2:(b0 / 32 == 6)=false:=by simp; omega
 have h3:(b0 / 16 == 14)=false:=by simp; omega
 simp only [h2,h3,Bool.false_and,Bool.false_eq_true,if_false,Utf8.runeError,valid_nat]
 cases e1 <;> cases e2 <;> cases e3 <;> simp
 by_cases k:b0 / 8=30∧b1 / 64=2∧b2 / 64=2∧b3 / 64=2
 ·rw [if_pos (by simpa [and_assoc] using k)]
  split <;> split <;> first | (exfalso; omega) | (apply npair <;> omega)
 ·rw [if_neg (by simpa [and_assoc] using k),if_neg (by omega)]

set_option maxRecDepth 100000 in
theorem dec_eq (s:ByteArray) (i:Nat):dec s i=(((Utf8.decode s i).1:Int),((Utf8.decode s i).2:Int)):=by
 rw [decode_decN]
 have e0:=byteAt_get s i
 have e1:=byteAt_get s (i+1)
 have e2:=byteAt_get s (i+2)
 have e3:=byteAt_get s (i+3)
 have u0:(s.get! i).toNat<256:=(s.get! i).toNat_lt
 generalize (s.get! i).toNat=b0 at *
 generalize (s.get! (i+1)).toNat=b1 at *
 generalize (s.get! (i+2)).toNat=b2 at *
 generalize (s.get! (i+3)).toNat=b3 at *
 unfold dec
 rw [e0]
 by_cases k1:b0<128
 ·rw [if_pos (by omega)]; unfold decN; rw [if_pos (by omega)]; rfl
 rw [if_neg (by omega)]
 by_cases k2:b0<224
 ·rw [decN_two _ _ _ _ _ _ _ ⟨by omega,k2⟩,if_neg (c:=224≤(b0:Int)∧_) (by omega),if_neg (c:=240≤(b0:Int)∧_) (by omega)]
  simp only [decide_eq_true_eq]
  by_cases c:194≤b0∧i+1<s.size∧128≤b1∧b1<192
  ·have m1:moreOf s (i+1) 128 191=b1 - 128:=by unfold moreOf; rw [e1,if_neg (by omega)]
   rw [if_pos c,if_pos (by omega),m1,if_pos (by omega)]
   apply pair_ext <;> simp only <;> omega
  ·rw [if_neg c]
   by_cases c0:194≤(b0:Int)∧(b0:Int)≤223
   ·have m1:moreOf s (i+1) 128 191 = -1:=by unfold moreOf; rw [e1,if_pos (by omega)]
    rw [if_pos c0,m1,if_neg (by omega)]; rfl
   ·rw [if_neg c0]; rfl
 by_cases k3:b0<240
 ·rw [decN_three _ _ _ _ _ _ _ ⟨by omega,k3⟩,if_neg (by omega),if_pos (by omega)]
  simp only [decide_eq_true_eq]
  unfold three
  rw [e0]
  have hl:(b0=224∧low3 b0=160)∨(b0≠224∧low3 b0=128):=by unfold low3; by_cases q:b0=224 <;> simp [q]; omega
  have hh:(b0=237∧high3 b0=159)∨(b0≠237∧high3 b0=191):=by unfold high3; by_cases q:b0=237 <;> simp [q]; omega
  by_cases c:i+1<s.size∧i+2<s.size∧(b0=224→160≤b1)∧128≤b1∧(b0=237→b1≤159)∧b1≤191∧128≤b2∧b2<192
  ·have m1:moreOf s (i+1) (low3 b0) (high3 b0)=b1 - 128:=by unfold moreOf; rw [e1,if_neg (by omega)]
   have m2:moreOf s (i+2) 128 191=b2 - 128:=by unfold moreOf; rw [e2,if_neg (by omega)]
   rw [if_pos c,m1,m2,if_neg (by omega)]
   apply pair_ext <;> simp only <;> omega
  ·rw [if_neg c]
   have hn:moreOf s (i+1) (low3 b0) (high3 b0)<0∨moreOf s (i+2) 128 191<0:=by
    by_cases q:i+1<s.size∧low3 b0≤b1∧b1≤high3 b0
    ·right; unfold moreOf; rw [e2,if_pos (by omega)]; omega
    ·left; unfold moreOf; rw [e1,if_pos (by omega)]; omega
   rw [if_pos hn]; rfl
 ·rw [decN_four _ _ _ _ _ _ _ ⟨by omega,u0⟩,if_neg (by omega),if_neg (by omega)]
  simp only [decide_eq_true_eq]
  by_cases c0:b0≤244
  ·rw [if_pos (by omega)]
   unfold four
   rw [e0]
   have hl:(b0=240∧low4 b0=144)∨(b0≠240∧low4 b0=128):=by unfold low4; by_cases q:b0=240 <;> simp [q]; omega
   have hh:(b0=244∧high4 b0=143)∨(b0≠244∧high4 b0=191):=by unfold high4; by_cases q:b0=244 <;> simp [q]; omega
   by_cases c:b0≤244∧i+1<s.size∧i+2<s.size∧i+3<s.size∧(b0=240→144≤b1)∧128≤b1∧(b0=244→b1≤143)∧b1≤191∧128≤b2∧b2<192∧128≤b3∧b3<192
   ·have m1:moreOf s (i+1) (low4 b0) (high4 b0)=b1 - 128:=by unfold moreOf; rw [e1,if_neg (by omega)]
    have m2:moreOf s (i+2) 128 191=b2 - 128:=by unfold moreOf; rw [e2,if_neg (by omega)]
    have m3:moreOf s (i+3) 128 191=b3 - 128:=by unfold moreOf; rw [e3,if_neg (by omega)]
    rw [if_pos c,m1,m2,m3,if_neg (by omega)]
    apply pair_ext <;> simp only <;> omega
   ·rw [if_neg c]
    have hn:moreOf s (i+1) (low4 b0) (high4 b0)<0∨moreOf s (i+2) 128 191<0∨moreOf s (i+3) 128 191<0:=by
     by_cases q:i+1<s.size∧low4 b0≤b1∧b1≤high4 b0
     ·right
      by_cases q2:i+2<s.size∧128≤b2∧b2<192
      ·right; unfold moreOf; rw [e3,if_pos (by omega)]; omega
      ·left; unfold moreOf; rw [e2,if_pos (by omega)]; omega
     ·left; unfold moreOf; rw [e1,if_pos (by omega)]; omega
    rw [if_pos hn]; rfl
  ·rw [if_neg (by omega),if_neg (by omega)]; rfl
end Go.Proofs.YtmcoomlkbgiboaaGreatDoor

/- Contracts of the functions of package chars and of the reference of layer 1 that read one code point. No condition but the length of a string. -/
set_option linter.all false
namespace Go.Proofs.YtmcoomlkbgiboaaGreatDoor
open Go.RowKit

def widthOf (b:Int):Int:=if b<128 then 1 else if 194≤b∧b≤223 then 2 else if 224≤b∧b≤239 then 3 else if 240≤b∧b≤244 then 4 else 0
def lowOf (b:Int):Int:=if b=224 then 160 else if b=240 then 144 else 128
def highOf (b:Int):Int:=if b=237 then 159 else if b=244 then 143 else 191
def uncleanOf (c:Int):Bool:=decide (c<32∧c≠10∨c=127)

theorem width_any (b:Int) (w:World) (h0:0≤b) (h1:b<256) :
  Calls Tryz.prog 223 #[.int .u8 b] w fun e w'=>e=.returned (.int .i64 (widthOf b))∧w=w':=by
 go_enter Tryz.func223,Tryz.ntmps223
 go_wp2
 all_goals go_ret
 all_goals exact ⟨by simp [widthOf]; omega,rfl⟩

theorem second_any (b:Int) (w:World) :
  Calls Tryz.prog 224 #[.int .u8 b] w fun e w'=>e=.returned (.tuple #[.int .u8 (lowOf b),.int .u8 (highOf b)])∧w=w':=by
 go_enter Tryz.func224,Tryz.ntmps224
 go_wp2
 all_goals go_ret2
 all_goals exact ⟨ret_ints (by simp only [beq_iff_eq,beq_eq_false_iff_ne,ne_eq] at *; unfold lowOf; omega) (by simp only [beq_iff_eq,beq_eq_false_iff_ne,ne_eq] at *; unfold highOf; omega),rfl⟩

theorem unclean_any (c:Int) (w:World) :
  Calls Tryz.prog 181 #[.int .i64 c] w fun e w'=>e=.returned (.bool (uncleanOf c))∧w=w':=by
 go_enter Tryz.func181,Tryz.ntmps181
 go_wp2
 all_goals go_ret
 all_goals exact ⟨ret_bool (by unfold uncleanOf; rw [Bool.eq_iff_iff]; simp; omega),rfl⟩


theorem i64_wraps (n:Int) (h₀:0≤n) (h₁:n<2 ^ 31):IntKind.i64.wrap n=n:=by rw [IntKind.wrap_i64]; omega
theorem i64_mask (i:Nat) (hi:i≤31) (x:Int) (h0:0≤x) (h1:x<256):bits .and .i64 x (2 ^ i - 1)=x % 2 ^ i :=
 bits_mask .i64 31 (by decide) i64_wraps i hi x h0 (by omega)
theorem i64_join6 (x y:Int) (hx0:0≤x) (hx:x % 64=0) (hx1:x<1000000000) (h0:0≤y) (h1:y<64):bits .or .i64 x y=x+y :=
 bits_join .i64 31 (by decide) i64_wraps 6 x y hx0 (by omega) (by omega) h0 (by omega) (by omega)

/-- What the function answers: the code point and its number of bytes, as the model's decoder has them. -/
def NextPost (s:ByteArray) (i:Nat) (w:World) (e:Ending) (w':World):Prop:=e=.returned (.tuple #[.int .i64 (dec s i).1,.int .i64 (dec s i).2])∧∃ n,w'=w.drewN n
theorem NextPost.mk {s:ByteArray} {i:Nat} {w:World} {e:Ending} {w':World} {c n:Int} (h:dec s i=(c,n)) (he:e=.returned (.tuple #[.int .i64 c,.int .i64 n])) (hw:∃ n,w'=w.drewN n):NextPost s i w e w':=by
 unfold NextPost; rw [h]; exact ⟨he,hw⟩
theorem drew_none (w:World):∃ n,w=w.drewN n:=⟨0,rfl⟩
theorem drew_more (w:World) (n:Nat):∃ m,w.drewN n=w.drewN m:=⟨n,rfl⟩

set_option maxRecDepth 100000 in
set_option maxHeartbeats 600000 in
theorem next_ascii (s:ByteArray) (i:Nat) (w:World) (hs:s.size≤1000000000) (b:Int) (hi:i+0<s.size) (hb:byteAt s i=b) (k0:b<128) :
  Calls Tryz.prog 180 #[.string s,.int .i64 i] w fun e w'=>e=.returned (.tuple #[.int .i64 (b),.int .i64 1])∧∃ n,w'=w.drewN n:=by
 have i0:=run_at (P:=Tryz.prog) (t:=9) Tryz.underlying9 s i (by omega) i rfl
 rw [hb] at i0
 have hbl:=byteAt_lo s i
 have hbh:=byteAt_hi s i
 rw [hb] at hbl hbh
 clear hb
 have hw:widthOf b=1:=by unfold widthOf; omega
 go_enter Tryz.func180,Tryz.ntmps180
 go_wp2_with fail
 refine (width_any _ _ (by omega) (by omega)).mono ?_
 rintro e w' ⟨rfl,rfl⟩
 rw [hw]
 go_wp2_with fail
 go_ret2
 exact ⟨rfl,drew_none _⟩

set_option maxRecDepth 100000 in
set_option maxHeartbeats 600000 in
theorem next_bad (s:ByteArray) (i:Nat) (w:World) (hs:s.size≤1000000000) (b:Int) (hi:i+0<s.size) (hb:byteAt s i=b) (k0:128≤b) (k1:b<194∨244<b) :
  Calls Tryz.prog 180 #[.string s,.int .i64 i] w fun e w'=>e=.returned (.tuple #[.int .i64 (65533),.int .i64 1])∧∃ n,w'=w.drewN n:=by
 have i0:=run_at (P:=Tryz.prog) (t:=9) Tryz.underlying9 s i (by omega) i rfl
 rw [hb] at i0
 have hbl:=byteAt_lo s i
 have hbh:=byteAt_hi s i
 rw [hb] at hbl hbh
 clear hb
 have hw:widthOf b=0:=by unfold widthOf; omega
 go_enter Tryz.func180,Tryz.ntmps180
 go_wp2_with fail
 refine (width_any _ _ (by omega) (by omega)).mono ?_
 rintro e w' ⟨rfl,rfl⟩
 rw [hw]
 go_wp2_with fail
 go_ret2
 exact ⟨rfl,drew_none _⟩

set_option maxRecDepth 100000 in
set_option maxHeartbeats 600000 in
theorem next_short2 (s:ByteArray) (i:Nat) (w:World) (hs:s.size≤1000000000) (b:Int) (hi:i+0<s.size) (hb:byteAt s i=b) (k0:194≤b) (k1:b≤223) (k2:s.size<i+2) :
  Calls Tryz.prog 180 #[.string s,.int .i64 i] w fun e w'=>e=.returned (.tuple #[.int .i64 (65533),.int .i64 1])∧∃ n,w'=w.drewN n:=by
 have i0:=run_at (P:=Tryz.prog) (t:=9) Tryz.underlying9 s i (by omega) i rfl
 rw [hb] at i0
 have hbl:=byteAt_lo s i
 have hbh:=byteAt_hi s i
 rw [hb] at hbl hbh
 clear hb
 have hw:widthOf b=2:=by unfold widthOf; omega
 go_enter Tryz.func180,Tryz.ntmps180
 go_wp2_with fail
 refine (width_any _ _ (by omega) (by omega)).mono ?_
 rintro e w' ⟨rfl,rfl⟩
 rw [hw]
 go_wp2_with fail
 go_ret2
 exact ⟨rfl,drew_none _⟩

set_option maxRecDepth 100000 in
set_option maxHeartbeats 600000 in
theorem next_short3 (s:ByteArray) (i:Nat) (w:World) (hs:s.size≤1000000000) (b:Int) (hi:i+0<s.size) (hb:byteAt s i=b) (k0:224≤b) (k1:b≤239) (k2:s.size<i+3) :
  Calls Tryz.prog 180 #[.string s,.int .i64 i] w fun e w'=>e=.returned (.tuple #[.int .i64 (65533),.int .i64 1])∧∃ n,w'=w.drewN n:=by
 have i0:=run_at (P:=Tryz.prog) (t:=9) Tryz.underlying9 s i (by omega) i rfl
 rw [hb] at i0
 have hbl:=byteAt_lo s i
 have hbh:=byteAt_hi s i
 rw [hb] at hbl hbh
 clear hb
 have hw:widthOf b=3:=by unfold widthOf; omega
 go_enter Tryz.func180,Tryz.ntmps180
 go_wp2_with fail
 refine (width_any _ _ (by omega) (by omega)).mono ?_
 rintro e w' ⟨rfl,rfl⟩
 rw [hw]
 go_wp2_with fail
 go_ret2
 exact ⟨rfl,drew_none _⟩

set_option maxRecDepth 100000 in
set_option maxHeartbeats 600000 in
theorem next_short4 (s:ByteArray) (i:Nat) (w:World) (hs:s.size≤1000000000) (b:Int) (hi:i+0<s.size) (hb:byteAt s i=b) (k0:240≤b) (k1:b≤244) (k2:s.size<i+4) :
  Calls Tryz.prog 180 #[.string s,.int .i64 i] w fun e w'=>e=.returned (.tuple #[.int .i64 (65533),.int .i64 1])∧∃ n,w'=w.drewN n:=by
 have i0:=run_at (P:=Tryz.prog) (t:=9) Tryz.underlying9 s i (by omega) i rfl
 rw [hb] at i0
 have hbl:=byteAt_lo s i
 have hbh:=byteAt_hi s i
 rw [hb] at hbl hbh
 clear hb
 have hw:widthOf b=4:=by unfold widthOf; omega
 go_enter Tryz.func180,Tryz.ntmps180
 go_wp2_with fail
 refine (width_any _ _ (by omega) (by omega)).mono ?_
 rintro e w' ⟨rfl,rfl⟩
 rw [hw]
 go_wp2_with fail
 go_ret2
 exact ⟨rfl,drew_none _⟩

set_option maxRecDepth 100000 in
set_option maxHeartbeats 600000 in
theorem next_second2lo (s:ByteArray) (i:Nat) (w:World) (hs:s.size≤1000000000) (b:Int) (b1:Int) (hi:i+1<s.size) (hb:byteAt s i=b) (hb1:byteAt s (i+1)=b1) (k0:194≤b) (k1:b≤223) (k2:i+2≤s.size) (k3:b1<lowOf b) :
  Calls Tryz.prog 180 #[.string s,.int .i64 i] w fun e w'=>e=.returned (.tuple #[.int .i64 (65533),.int .i64 1])∧∃ n,w'=w.drewN n:=by
 have i0:=run_at (P:=Tryz.prog) (t:=9) Tryz.underlying9 s i (by omega) i rfl
 rw [hb] at i0
 have i1:=run_at (P:=Tryz.prog) (t:=9) Tryz.underlying9 s (i+1) (by omega) (i+1) (by omega)
 rw [hb1] at i1
 have hbl:=byteAt_lo s i
 have hbh:=byteAt_hi s i
 rw [hb] at hbl hbh
 have hbl1:=byteAt_lo s (i+1)
 have hbh1:=byteAt_hi s (i+1)
 rw [hb1] at hbl1 hbh1
 clear hb hb1
 have hw:widthOf b=2:=by unfold widthOf; omega
 have HL:lowOf b≤160:=by unfold lowOf; omega
 have HL':128≤lowOf b:=by unfold lowOf; omega
 have HH:143≤highOf b:=by unfold highOf; omega
 have HH':highOf b≤191:=by unfold highOf; omega
 go_enter Tryz.func180,Tryz.ntmps180
 go_wp2_with fail
 refine (width_any _ _ (by omega) (by omega)).mono ?_
 rintro e w' ⟨rfl,rfl⟩
 rw [hw]
 go_wp2_with fail
 refine (second_any _ _).mono ?_
 rintro e w' ⟨rfl,rfl⟩
 go_wp2_with fail
 all_goals go_ret2
 all_goals exact ⟨rfl,drew_none _⟩

set_option maxRecDepth 100000 in
set_option maxHeartbeats 600000 in
theorem next_second2hi (s:ByteArray) (i:Nat) (w:World) (hs:s.size≤1000000000) (b:Int) (b1:Int) (hi:i+1<s.size) (hb:byteAt s i=b) (hb1:byteAt s (i+1)=b1) (k0:194≤b) (k1:b≤223) (k2:i+2≤s.size) (k3:highOf b<b1) :
  Calls Tryz.prog 180 #[.string s,.int .i64 i] w fun e w'=>e=.returned (.tuple #[.int .i64 (65533),.int .i64 1])∧∃ n,w'=w.drewN n:=by
 have i0:=run_at (P:=Tryz.prog) (t:=9) Tryz.underlying9 s i (by omega) i rfl
 rw [hb] at i0
 have i1:=run_at (P:=Tryz.prog) (t:=9) Tryz.underlying9 s (i+1) (by omega) (i+1) (by omega)
 rw [hb1] at i1
 have hbl:=byteAt_lo s i
 have hbh:=byteAt_hi s i
 rw [hb] at hbl hbh
 have hbl1:=byteAt_lo s (i+1)
 have hbh1:=byteAt_hi s (i+1)
 rw [hb1] at hbl1 hbh1
 clear hb hb1
 have hw:widthOf b=2:=by unfold widthOf; omega
 have HL:lowOf b≤160:=by unfold lowOf; omega
 have HL':128≤lowOf b:=by unfold lowOf; omega
 have HH:143≤highOf b:=by unfold highOf; omega
 have HH':highOf b≤191:=by unfold highOf; omega
 go_enter Tryz.func180,Tryz.ntmps180
 go_wp2_with fail
 refine (width_any _ _ (by omega) (by omega)).mono ?_
 rintro e w' ⟨rfl,rfl⟩
 rw [hw]
 go_wp2_with fail
 refine (second_any _ _).mono ?_
 rintro e w' ⟨rfl,rfl⟩
 go_wp2_with fail
 all_goals go_ret2
 all_goals exact ⟨rfl,drew_none _⟩

set_option maxRecDepth 100000 in
set_option maxHeartbeats 600000 in
theorem next_second3lo (s:ByteArray) (i:Nat) (w:World) (hs:s.size≤1000000000) (b:Int) (b1:Int) (hi:i+1<s.size) (hb:byteAt s i=b) (hb1:byteAt s (i+1)=b1) (k0:224≤b) (k1:b≤239) (k2:i+3≤s.size) (k3:b1<lowOf b) :
  Calls Tryz.prog 180 #[.string s,.int .i64 i] w fun e w'=>e=.returned (.tuple #[.int .i64 (65533),.int .i64 1])∧∃ n,w'=w.drewN n:=by
 have i0:=run_at (P:=Tryz.prog) (t:=9) Tryz.underlying9 s i (by omega) i rfl
 rw [hb] at i0
 have i1:=run_at (P:=Tryz.prog) (t:=9) Tryz.underlying9 s (i+1) (by omega) (i+1) (by omega)
 rw [hb1] at i1
 have hbl:=byteAt_lo s i
 have hbh:=byteAt_hi s i
 rw [hb] at hbl hbh
 have hbl1:=byteAt_lo s (i+1)
 have hbh1:=byteAt_hi s (i+1)
 rw [hb1] at hbl1 hbh1
 clear hb hb1
 have hw:widthOf b=3:=by unfold widthOf; omega
 have HL:lowOf b≤160:=by unfold lowOf; omega
 have HL':128≤lowOf b:=by unfold lowOf; omega
 have HH:143≤highOf b:=by unfold highOf; omega
 have HH':highOf b≤191:=by unfold highOf; omega
 go_enter Tryz.func180,Tryz.ntmps180
 go_wp2_with fail
 refine (width_any _ _ (by omega) (by omega)).mono ?_
 rintro e w' ⟨rfl,rfl⟩
 rw [hw]
 go_wp2_with fail
 refine (second_any _ _).mono ?_
 rintro e w' ⟨rfl,rfl⟩
 go_wp2_with fail
 all_goals go_ret2
 all_goals exact ⟨rfl,drew_none _⟩

set_option maxRecDepth 100000 in
set_option maxHeartbeats 600000 in
theorem next_second3hi (s:ByteArray) (i:Nat) (w:World) (hs:s.size≤1000000000) (b:Int) (b1:Int) (hi:i+1<s.size) (hb:byteAt s i=b) (hb1:byteAt s (i+1)=b1) (k0:224≤b) (k1:b≤239) (k2:i+3≤s.size) (k3:highOf b<b1) :
  Calls Tryz.prog 180 #[.string s,.int .i64 i] w fun e w'=>e=.returned (.tuple #[.int .i64 (65533),.int .i64 1])∧∃ n,w'=w.drewN n:=by
 have i0:=run_at (P:=Tryz.prog) (t:=9) Tryz.underlying9 s i (by omega) i rfl
 rw [hb] at i0
 have i1:=run_at (P:=Tryz.prog) (t:=9) Tryz.underlying9 s (i+1) (by omega) (i+1) (by omega)
 rw [hb1] at i1
 have hbl:=byteAt_lo s i
 have hbh:=byteAt_hi s i
 rw [hb] at hbl hbh
 have hbl1:=byteAt_lo s (i+1)
 have hbh1:=byteAt_hi s (i+1)
 rw [hb1] at hbl1 hbh1
 clear hb hb1
 have hw:widthOf b=3:=by unfold widthOf; omega
 have HL:lowOf b≤160:=by unfold lowOf; omega
 have HL':128≤lowOf b:=by unfold lowOf; omega
 have HH:143≤highOf b:=by unfold highOf; omega
 have HH':highOf b≤191:=by unfold highOf; omega
 go_enter Tryz.func180,Tryz.ntmps180
 go_wp2_with fail
 refine (width_any _ _ (by omega) (by omega)).mono ?_
 rintro e w' ⟨rfl,rfl⟩
 rw [hw]
 go_wp2_with fail
 refine (second_any _ _).mono ?_
 rintro e w' ⟨rfl,rfl⟩
 go_wp2_with fail
 all_goals go_ret2
 all_goals exact ⟨rfl,drew_none _⟩

set_option maxRecDepth 100000 in
set_option maxHeartbeats 600000 in
theorem next_second4lo (s:ByteArray) (i:Nat) (w:World) (hs:s.size≤1000000000) (b:Int) (b1:Int) (hi:i+1<s.size) (hb:byteAt s i=b) (hb1:byteAt s (i+1)=b1) (k0:240≤b) (k1:b≤244) (k2:i+4≤s.size) (k3:b1<lowOf b) :
  Calls Tryz.prog 180 #[.string s,.int .i64 i] w fun e w'=>e=.returned (.tuple #[.int .i64 (65533),.int .i64 1])∧∃ n,w'=w.drewN n:=by
 have i0:=run_at (P:=Tryz.prog) (t:=9) Tryz.underlying9 s i (by omega) i rfl
 rw [hb] at i0
 have i1:=run_at (P:=Tryz.prog) (t:=9) Tryz.underlying9 s (i+1) (by omega) (i+1) (by omega)
 rw [hb1] at i1
 have hbl:=byteAt_lo s i
 have hbh:=byteAt_hi s i
 rw [hb] at hbl hbh
 have hbl1:=byteAt_lo s (i+1)
 have hbh1:=byteAt_hi s (i+1)
 rw [hb1] at hbl1 hbh1
 clear hb hb1
 have hw:widthOf b=4:=by unfold widthOf; omega
 have HL:lowOf b≤160:=by unfold lowOf; omega
 have HL':128≤lowOf b:=by unfold lowOf; omega
 have HH:143≤highOf b:=by unfold highOf; omega
 have HH':highOf b≤191:=by unfold highOf; omega
 go_enter Tryz.func180,Tryz.ntmps180
 go_wp2_with fail
 refine (width_any _ _ (by omega) (by omega)).mono ?_
 rintro e w' ⟨rfl,rfl⟩
 rw [hw]
 go_wp2_with fail
 refine (second_any _ _).mono ?_
 rintro e w' ⟨rfl,rfl⟩
 go_wp2_with fail
 all_goals go_ret2
 all_goals exact ⟨rfl,drew_none _⟩

set_option maxRecDepth 100000 in
set_option maxHeartbeats 600000 in
theorem next_second4hi (s:ByteArray) (i:Nat) (w:World) (hs:s.size≤1000000000) (b:Int) (b1:Int) (hi:i+1<s.size) (hb:byteAt s i=b) (hb1:byteAt s (i+1)=b1) (k0:240≤b) (k1:b≤244) (k2:i+4≤s.size) (k3:highOf b<b1) :
  Calls Tryz.prog 180 #[.string s,.int .i64 i] w fun e w'=>e=.returned (.tuple #[.int .i64 (65533),.int .i64 1])∧∃ n,w'=w.drewN n:=by
 have i0:=run_at (P:=Tryz.prog) (t:=9) Tryz.underlying9 s i (by omega) i rfl
 rw [hb] at i0
 have i1:=run_at (P:=Tryz.prog) (t:=9) Tryz.underlying9 s (i+1) (by omega) (i+1) (by omega)
 rw [hb1] at i1
 have hbl:=byteAt_lo s i
 have hbh:=byteAt_hi s i
 rw [hb] at hbl hbh
 have hbl1:=byteAt_lo s (i+1)
 have hbh1:=byteAt_hi s (i+1)
 rw [hb1] at hbl1 hbh1
 clear hb hb1
 have hw:widthOf b=4:=by unfold widthOf; omega
 have HL:lowOf b≤160:=by unfold lowOf; omega
 have HL':128≤lowOf b:=by unfold lowOf; omega
 have HH:143≤highOf b:=by unfold highOf; omega
 have HH':highOf b≤191:=by unfold highOf; omega
 go_enter Tryz.func180,Tryz.ntmps180
 go_wp2_with fail
 refine (width_any _ _ (by omega) (by omega)).mono ?_
 rintro e w' ⟨rfl,rfl⟩
 rw [hw]
 go_wp2_with fail
 refine (second_any _ _).mono ?_
 rintro e w' ⟨rfl,rfl⟩
 go_wp2_with fail
 all_goals go_ret2
 all_goals exact ⟨rfl,drew_none _⟩

set_option maxRecDepth 100000 in
set_option maxHeartbeats 600000 in
theorem next_good2 (s:ByteArray) (i:Nat) (w:World) (hs:s.size≤1000000000) (b:Int) (b1:Int) (hi:i+1<s.size) (hb:byteAt s i=b) (hb1:byteAt s (i+1)=b1) (k0:194≤b) (k1:b≤223) (k2:lowOf b≤b1) (k3:b1≤highOf b) :
  Calls Tryz.prog 180 #[.string s,.int .i64 i] w fun e w'=>e=.returned (.tuple #[.int .i64 ((b - 192) * 64+(b1 - 128)),.int .i64 2])∧∃ n,w'=w.drewN n:=by
 have i0:=run_at (P:=Tryz.prog) (t:=9) Tryz.underlying9 s i (by omega) i rfl
 rw [hb] at i0
 have i1:=run_at (P:=Tryz.prog) (t:=9) Tryz.underlying9 s (i+1) (by omega) (i+1) (by omega)
 rw [hb1] at i1
 have hbl:=byteAt_lo s i
 have hbh:=byteAt_hi s i
 rw [hb] at hbl hbh
 have hbl1:=byteAt_lo s (i+1)
 have hbh1:=byteAt_hi s (i+1)
 rw [hb1] at hbl1 hbh1
 clear hb hb1
 have hw:widthOf b=2:=by unfold widthOf; omega
 have HL':128≤lowOf b:=by unfold lowOf; omega
 have HH':highOf b≤191:=by unfold highOf; omega
 have hm:bits .and .i64 b 31=b - 192:=by rw [show (31:Int)=2 ^ 5 - 1 from by decide,i64_mask 5 (by decide) b hbl hbh]; omega
 have ho1:bits .or .i64 ((b - 192) * 64) (b1 % 64)=(b - 192) * 64+(b1 - 128):=by rw [i64_join6 _ _ (by omega) (by omega) (by omega) (by omega) (by omega)]; omega
 go_enter Tryz.func180,Tryz.ntmps180
 go_wp2_with fail
 refine (width_any _ _ (by omega) (by omega)).mono ?_
 rintro e w' ⟨rfl,rfl⟩
 rw [hw]
 go_wp2_with fail
 refine (second_any _ _).mono ?_
 rintro e w' ⟨rfl,rfl⟩
 go_wp2_with fail
 go_quiet (fail)
 go_wp2_with fail
 refine wp_loop_rounds 2 ?_
 rw [rounds_succ]
 go_wp2_with fail
 rw [rounds_succ]
 go_wp2_with fail
 all_goals go_ret2
 all_goals exact ⟨rfl,drew_more _ _⟩

set_option maxRecDepth 100000 in
set_option maxHeartbeats 600000 in
theorem next_good3 (s:ByteArray) (i:Nat) (w:World) (hs:s.size≤1000000000) (b:Int) (b1:Int) (b2:Int) (hi:i+2<s.size) (hb:byteAt s i=b) (hb1:byteAt s (i+1)=b1) (hb2:byteAt s (i+2)=b2) (k0:224≤b) (k1:b≤239) (k2:lowOf b≤b1) (k3:b1≤highOf b) (k4:128≤b2) (k5:b2≤191) :
  Calls Tryz.prog 180 #[.string s,.int .i64 i] w fun e w'=>e=.returned (.tuple #[.int .i64 (((b - 224) * 64+(b1 - 128)) * 64+(b2 - 128)),.int .i64 3])∧∃ n,w'=w.drewN n:=by
 have i0:=run_at (P:=Tryz.prog) (t:=9) Tryz.underlying9 s i (by omega) i rfl
 rw [hb] at i0
 have i1:=run_at (P:=Tryz.prog) (t:=9) Tryz.underlying9 s (i+1) (by omega) (i+1) (by omega)
 rw [hb1] at i1
 have i2:=run_at (P:=Tryz.prog) (t:=9) Tryz.underlying9 s (i+2) (by omega) (i+2) (by omega)
 rw [hb2] at i2
 have j2:=run_at (P:=Tryz.prog) (t:=9) Tryz.underlying9 s (i+2) (by omega) (i+1+1) (by omega)
 rw [hb2] at j2
 have hbl:=byteAt_lo s i
 have hbh:=byteAt_hi s i
 rw [hb] at hbl hbh
 have hbl1:=byteAt_lo s (i+1)
 have hbh1:=byteAt_hi s (i+1)
 rw [hb1] at hbl1 hbh1
 have hbl2:=byteAt_lo s (i+2)
 have hbh2:=byteAt_hi s (i+2)
 rw [hb2] at hbl2 hbh2
 clear hb hb1 hb2
 have hw:widthOf b=3:=by unfold widthOf; omega
 have HL':128≤lowOf b:=by unfold lowOf; omega
 have HH':highOf b≤191:=by unfold highOf; omega
 have hm:bits .and .i64 b 15=b - 224:=by rw [show (15:Int)=2 ^ 4 - 1 from by decide,i64_mask 4 (by decide) b hbl hbh]; omega
 have ho1:bits .or .i64 ((b - 224) * 64) (b1 % 64)=(b - 224) * 64+(b1 - 128):=by rw [i64_join6 _ _ (by omega) (by omega) (by omega) (by omega) (by omega)]; omega
 have ho2:bits .or .i64 (((b - 224) * 64+(b1 - 128)) * 64) (b2 % 64)=((b - 224) * 64+(b1 - 128)) * 64+(b2 - 128):=by rw [i64_join6 _ _ (by omega) (by omega) (by omega) (by omega) (by omega)]; omega
 go_enter Tryz.func180,Tryz.ntmps180
 go_wp2_with fail
 refine (width_any _ _ (by omega) (by omega)).mono ?_
 rintro e w' ⟨rfl,rfl⟩
 rw [hw]
 go_wp2_with fail
 refine (second_any _ _).mono ?_
 rintro e w' ⟨rfl,rfl⟩
 go_wp2_with fail
 go_quiet (fail)
 go_wp2_with fail
 refine wp_loop_rounds 3 ?_
 rw [rounds_succ]
 go_wp2_with fail
 rw [rounds_succ]
 go_wp2_with fail
 rw [rounds_succ]
 go_wp2_with fail
 all_goals go_ret2
 all_goals exact ⟨rfl,drew_more _ _⟩

set_option maxRecDepth 100000 in
set_option maxHeartbeats 600000 in
theorem next_good4 (s:ByteArray) (i:Nat) (w:World) (hs:s.size≤1000000000) (b:Int) (b1:Int) (b2:Int) (b3:Int) (hi:i+3<s.size) (hb:byteAt s i=b) (hb1:byteAt s (i+1)=b1) (hb2:byteAt s (i+2)=b2) (hb3:byteAt s (i+3)=b3) (k0:240≤b) (k1:b≤244) (k2:lowOf b≤b1) (k3:b1≤highOf b) (k4:128≤b2) (k5:b2≤191) (k6:128≤b3) (k7:b3≤191) :
  Calls Tryz.prog 180 #[.string s,.int .i64 i] w fun e w'=>e=.returned (.tuple #[.int .i64 ((((b - 240) * 64+(b1 - 128)) * 64+(b2 - 128)) * 64+(b3 - 128)),.int .i64 4])∧∃ n,w'=w.drewN n:=by
 have i0:=run_at (P:=Tryz.prog) (t:=9) Tryz.underlying9 s i (by omega) i rfl
 rw [hb] at i0
 have i1:=run_at (P:=Tryz.prog) (t:=9) Tryz.underlying9 s (i+1) (by omega) (i+1) (by omega)
 rw [hb1] at i1
 have i2:=run_at (P:=Tryz.prog) (t:=9) Tryz.underlying9 s (i+2) (by omega) (i+2) (by omega)
 rw [hb2] at i2
 have j2:=run_at (P:=Tryz.prog) (t:=9) Tryz.underlying9 s (i+2) (by omega) (i+1+1) (by omega)
 rw [hb2] at j2
 have i3:=run_at (P:=Tryz.prog) (t:=9) Tryz.underlying9 s (i+3) (by omega) (i+3) (by omega)
 rw [hb3] at i3
 have j3:=run_at (P:=Tryz.prog) (t:=9) Tryz.underlying9 s (i+3) (by omega) (i+1+2) (by omega)
 rw [hb3] at j3
 have hbl:=byteAt_lo s i
 have hbh:=byteAt_hi s i
 rw [hb] at hbl hbh
 have hbl1:=byteAt_lo s (i+1)
 have hbh1:=byteAt_hi s (i+1)
 rw [hb1] at hbl1 hbh1
 have hbl2:=byteAt_lo s (i+2)
 have hbh2:=byteAt_hi s (i+2)
 rw [hb2] at hbl2 hbh2
 have hbl3:=byteAt_lo s (i+3)
 have hbh3:=byteAt_hi s (i+3)
 rw [hb3] at hbl3 hbh3
 clear hb hb1 hb2 hb3
 have hw:widthOf b=4:=by unfold widthOf; omega
 have HL':128≤lowOf b:=by unfold lowOf; omega
 have HH':highOf b≤191:=by unfold highOf; omega
 have hm:bits .and .i64 b 7=b - 240:=by rw [show (7:Int)=2 ^ 3 - 1 from by decide,i64_mask 3 (by decide) b hbl hbh]; omega
 have ho1:bits .or .i64 ((b - 240) * 64) (b1 % 64)=(b - 240) * 64+(b1 - 128):=by rw [i64_join6 _ _ (by omega) (by omega) (by omega) (by omega) (by omega)]; omega
 have ho2:bits .or .i64 (((b - 240) * 64+(b1 - 128)) * 64) (b2 % 64)=((b - 240) * 64+(b1 - 128)) * 64+(b2 - 128):=by rw [i64_join6 _ _ (by omega) (by omega) (by omega) (by omega) (by omega)]; omega
 have ho3:bits .or .i64 ((((b - 240) * 64+(b1 - 128)) * 64+(b2 - 128)) * 64) (b3 % 64)=(((b - 240) * 64+(b1 - 128)) * 64+(b2 - 128)) * 64+(b3 - 128):=by rw [i64_join6 _ _ (by omega) (by omega) (by omega) (by omega) (by omega)]; omega
 go_enter Tryz.func180,Tryz.ntmps180
 go_wp2_with fail
 refine (width_any _ _ (by omega) (by omega)).mono ?_
 rintro e w' ⟨rfl,rfl⟩
 rw [hw]
 go_wp2_with fail
 refine (second_any _ _).mono ?_
 rintro e w' ⟨rfl,rfl⟩
 go_wp2_with fail
 go_quiet (fail)
 go_wp2_with fail
 refine wp_loop_rounds 4 ?_
 rw [rounds_succ]
 go_wp2_with fail
 rw [rounds_succ]
 go_wp2_with fail
 rw [rounds_succ]
 go_wp2_with fail
 rw [rounds_succ]
 go_wp2_with fail
 all_goals go_ret2
 all_goals exact ⟨rfl,drew_more _ _⟩

set_option maxRecDepth 100000 in
set_option maxHeartbeats 600000 in
theorem next_bad3_2 (s:ByteArray) (i:Nat) (w:World) (hs:s.size≤1000000000) (b:Int) (b1:Int) (b2:Int) (hi:i+2<s.size) (hb:byteAt s i=b) (hb1:byteAt s (i+1)=b1) (hb2:byteAt s (i+2)=b2) (k0:224≤b) (k1:b≤239) (k2:lowOf b≤b1) (k3:b1≤highOf b) (k4:i+3≤s.size) (k5:b2<128∨191<b2) :
  Calls Tryz.prog 180 #[.string s,.int .i64 i] w fun e w'=>e=.returned (.tuple #[.int .i64 (65533),.int .i64 1])∧∃ n,w'=w.drewN n:=by
 have i0:=run_at (P:=Tryz.prog) (t:=9) Tryz.underlying9 s i (by omega) i rfl
 rw [hb] at i0
 have i1:=run_at (P:=Tryz.prog) (t:=9) Tryz.underlying9 s (i+1) (by omega) (i+1) (by omega)
 rw [hb1] at i1
 have i2:=run_at (P:=Tryz.prog) (t:=9) Tryz.underlying9 s (i+2) (by omega) (i+2) (by omega)
 rw [hb2] at i2
 have j2:=run_at (P:=Tryz.prog) (t:=9) Tryz.underlying9 s (i+2) (by omega) (i+1+1) (by omega)
 rw [hb2] at j2
 have hbl:=byteAt_lo s i
 have hbh:=byteAt_hi s i
 rw [hb] at hbl hbh
 have hbl1:=byteAt_lo s (i+1)
 have hbh1:=byteAt_hi s (i+1)
 rw [hb1] at hbl1 hbh1
 have hbl2:=byteAt_lo s (i+2)
 have hbh2:=byteAt_hi s (i+2)
 rw [hb2] at hbl2 hbh2
 clear hb hb1 hb2
 have hw:widthOf b=3:=by unfold widthOf; omega
 have HL':128≤lowOf b:=by unfold lowOf; omega
 have HH':highOf b≤191:=by unfold highOf; omega
 have hm:bits .and .i64 b 15=b - 224:=by rw [show (15:Int)=2 ^ 4 - 1 from by decide,i64_mask 4 (by decide) b hbl hbh]; omega
 have ho1:bits .or .i64 ((b - 224) * 64) (b1 % 64)=(b - 224) * 64+(b1 - 128):=by rw [i64_join6 _ _ (by omega) (by omega) (by omega) (by omega) (by omega)]; omega
 go_enter Tryz.func180,Tryz.ntmps180
 go_wp2_with fail
 refine (width_any _ _ (by omega) (by omega)).mono ?_
 rintro e w' ⟨rfl,rfl⟩
 rw [hw]
 go_wp2_with fail
 refine (second_any _ _).mono ?_
 rintro e w' ⟨rfl,rfl⟩
 go_wp2_with fail
 go_quiet (fail)
 go_wp2_with fail
 refine wp_loop_rounds 2 ?_
 rw [rounds_succ]
 go_wp2_with fail
 rw [rounds_succ]
 go_wp2_with fail
 all_goals go_ret2
 all_goals exact ⟨rfl,drew_more _ _⟩

set_option maxRecDepth 100000 in
set_option maxHeartbeats 600000 in
theorem next_bad4_2 (s:ByteArray) (i:Nat) (w:World) (hs:s.size≤1000000000) (b:Int) (b1:Int) (b2:Int) (hi:i+2<s.size) (hb:byteAt s i=b) (hb1:byteAt s (i+1)=b1) (hb2:byteAt s (i+2)=b2) (k0:240≤b) (k1:b≤244) (k2:lowOf b≤b1) (k3:b1≤highOf b) (k4:i+4≤s.size) (k5:b2<128∨191<b2) :
  Calls Tryz.prog 180 #[.string s,.int .i64 i] w fun e w'=>e=.returned (.tuple #[.int .i64 (65533),.int .i64 1])∧∃ n,w'=w.drewN n:=by
 have i0:=run_at (P:=Tryz.prog) (t:=9) Tryz.underlying9 s i (by omega) i rfl
 rw [hb] at i0
 have i1:=run_at (P:=Tryz.prog) (t:=9) Tryz.underlying9 s (i+1) (by omega) (i+1) (by omega)
 rw [hb1] at i1
 have i2:=run_at (P:=Tryz.prog) (t:=9) Tryz.underlying9 s (i+2) (by omega) (i+2) (by omega)
 rw [hb2] at i2
 have j2:=run_at (P:=Tryz.prog) (t:=9) Tryz.underlying9 s (i+2) (by omega) (i+1+1) (by omega)
 rw [hb2] at j2
 have hbl:=byteAt_lo s i
 have hbh:=byteAt_hi s i
 rw [hb] at hbl hbh
 have hbl1:=byteAt_lo s (i+1)
 have hbh1:=byteAt_hi s (i+1)
 rw [hb1] at hbl1 hbh1
 have hbl2:=byteAt_lo s (i+2)
 have hbh2:=byteAt_hi s (i+2)
 rw [hb2] at hbl2 hbh2
 clear hb hb1 hb2
 have hw:widthOf b=4:=by unfold widthOf; omega
 have HL':128≤lowOf b:=by unfold lowOf; omega
 have HH':highOf b≤191:=by unfold highOf; omega
 have hm:bits .and .i64 b 7=b - 240:=by rw [show (7:Int)=2 ^ 3 - 1 from by decide,i64_mask 3 (by decide) b hbl hbh]; omega
 have ho1:bits .or .i64 ((b - 240) * 64) (b1 % 64)=(b - 240) * 64+(b1 - 128):=by rw [i64_join6 _ _ (by omega) (by omega) (by omega) (by omega) (by omega)]; omega
 go_enter Tryz.func180,Tryz.ntmps180
 go_wp2_with fail
 refine (width_any _ _ (by omega) (by omega)).mono ?_
 rintro e w' ⟨rfl,rfl⟩
 rw [hw]
 go_wp2_with fail
 refine (second_any _ _).mono ?_
 rintro e w' ⟨rfl,rfl⟩
 go_wp2_with fail
 go_quiet (fail)
 go_wp2_with fail
 refine wp_loop_rounds 2 ?_
 rw [rounds_succ]
 go_wp2_with fail
 rw [rounds_succ]
 go_wp2_with fail
 all_goals go_ret2
 all_goals exact ⟨rfl,drew_more _ _⟩

set_option maxRecDepth 100000 in
set_option maxHeartbeats 600000 in
theorem next_bad4_3 (s:ByteArray) (i:Nat) (w:World) (hs:s.size≤1000000000) (b:Int) (b1:Int) (b2:Int) (b3:Int) (hi:i+3<s.size) (hb:byteAt s i=b) (hb1:byteAt s (i+1)=b1) (hb2:byteAt s (i+2)=b2) (hb3:byteAt s (i+3)=b3) (k0:240≤b) (k1:b≤244) (k2:lowOf b≤b1) (k3:b1≤highOf b) (k4:i+4≤s.size) (k5:128≤b2) (k6:b2≤191) (k7:b3<128∨191<b3) :
  Calls Tryz.prog 180 #[.string s,.int .i64 i] w fun e w'=>e=.returned (.tuple #[.int .i64 (65533),.int .i64 1])∧∃ n,w'=w.drewN n:=by
 have i0:=run_at (P:=Tryz.prog) (t:=9) Tryz.underlying9 s i (by omega) i rfl
 rw [hb] at i0
 have i1:=run_at (P:=Tryz.prog) (t:=9) Tryz.underlying9 s (i+1) (by omega) (i+1) (by omega)
 rw [hb1] at i1
 have i2:=run_at (P:=Tryz.prog) (t:=9) Tryz.underlying9 s (i+2) (by omega) (i+2) (by omega)
 rw [hb2] at i2
 have j2:=run_at (P:=Tryz.prog) (t:=9) Tryz.underlying9 s (i+2) (by omega) (i+1+1) (by omega)
 rw [hb2] at j2
 have i3:=run_at (P:=Tryz.prog) (t:=9) Tryz.underlying9 s (i+3) (by omega) (i+3) (by omega)
 rw [hb3] at i3
 have j3:=run_at (P:=Tryz.prog) (t:=9) Tryz.underlying9 s (i+3) (by omega) (i+1+2) (by omega)
 rw [hb3] at j3
 have hbl:=byteAt_lo s i
 have hbh:=byteAt_hi s i
 rw [hb] at hbl hbh
 have hbl1:=byteAt_lo s (i+1)
 have hbh1:=byteAt_hi s (i+1)
 rw [hb1] at hbl1 hbh1
 have hbl2:=byteAt_lo s (i+2)
 have hbh2:=byteAt_hi s (i+2)
 rw [hb2] at hbl2 hbh2
 have hbl3:=byteAt_lo s (i+3)
 have hbh3:=byteAt_hi s (i+3)
 rw [hb3] at hbl3 hbh3
 clear hb hb1 hb2 hb3
 have hw:widthOf b=4:=by unfold widthOf; omega
 have HL':128≤lowOf b:=by unfold lowOf; omega
 have HH':highOf b≤191:=by unfold highOf; omega
 have hm:bits .and .i64 b 7=b - 240:=by rw [show (7:Int)=2 ^ 3 - 1 from by decide,i64_mask 3 (by decide) b hbl hbh]; omega
 have ho1:bits .or .i64 ((b - 240) * 64) (b1 % 64)=(b - 240) * 64+(b1 - 128):=by rw [i64_join6 _ _ (by omega) (by omega) (by omega) (by omega) (by omega)]; omega
 have ho2:bits .or .i64 (((b - 240) * 64+(b1 - 128)) * 64) (b2 % 64)=((b - 240) * 64+(b1 - 128)) * 64+(b2 - 128):=by rw [i64_join6 _ _ (by omega) (by omega) (by omega) (by omega) (by omega)]; omega
 go_enter Tryz.func180,Tryz.ntmps180
 go_wp2_with fail
 refine (width_any _ _ (by omega) (by omega)).mono ?_
 rintro e w' ⟨rfl,rfl⟩
 rw [hw]
 go_wp2_with fail
 refine (second_any _ _).mono ?_
 rintro e w' ⟨rfl,rfl⟩
 go_wp2_with fail
 go_quiet (fail)
 go_wp2_with fail
 refine wp_loop_rounds 3 ?_
 rw [rounds_succ]
 go_wp2_with fail
 rw [rounds_succ]
 go_wp2_with fail
 rw [rounds_succ]
 go_wp2_with fail
 all_goals go_ret2
 all_goals exact ⟨rfl,drew_more _ _⟩


set_option maxHeartbeats 800000 in
theorem next_any (s:ByteArray) (i:Nat) (w:World) (hs:s.size≤1000000000) (hi:i<s.size) :
  Calls Tryz.prog 180 #[.string s,.int .i64 i] w (NextPost s i w):=by
 have h0:=byteAt_lo s i
 have h1:=byteAt_hi s i
 obtain ⟨b,hb⟩:∃ b,byteAt s i=b:=⟨_,rfl⟩
 obtain ⟨b1,hb1⟩:∃ b,byteAt s (i+1)=b:=⟨_,rfl⟩
 obtain ⟨b2,hb2⟩:∃ b,byteAt s (i+2)=b:=⟨_,rfl⟩
 obtain ⟨b3,hb3⟩:∃ b,byteAt s (i+3)=b:=⟨_,rfl⟩
 rw [hb] at h0 h1
 have mo:∀ (k:Nat) (x:Int) (l h:Int),byteAt s (i+k)=x→(s.size≤i+k∨x<l∨h<x)→moreOf s (i+k) l h = -1:=by
  intro k x l h e c; unfold moreOf; rw [e,if_pos c]
 have my:∀ (k:Nat) (x:Int) (l h:Int),byteAt s (i+k)=x→i+k<s.size→l≤x→x≤h→moreOf s (i+k) l h=x - 128:=by
  intro k x l h e c c1 c2; unfold moreOf; rw [e,if_neg (by omega)]
 by_cases k1:b<128
 ·refine (next_ascii s i w hs b hi hb k1).mono fun e w' ⟨he,hw⟩=>NextPost.mk ?_ he hw
  unfold dec; rw [hb,if_pos k1]
 by_cases k2:b<194∨244<b
 ·refine (next_bad s i w hs b hi hb (by omega) k2).mono fun e w' ⟨he,hw⟩=>NextPost.mk ?_ he hw
  unfold dec; rw [hb,if_neg k1,if_neg (by omega),if_neg (by omega),if_neg (by omega)]
 by_cases c2:b≤223
 ·have hl:lowOf b=128:=by unfold lowOf; omega
  have hh:highOf b=191:=by unfold highOf; omega
  have hd:dec s i=if 0≤moreOf s (i+1) 128 191 then ((b - 192) * 64+moreOf s (i+1) 128 191,2) else (65533,1):=by
   unfold dec; rw [hb,if_neg k1,if_pos (by omega)]
  by_cases q:s.size<i+2
  ·refine (next_short2 s i w hs b hi hb (by omega) c2 q).mono fun e w' ⟨he,hw⟩=>NextPost.mk ?_ he hw
   rw [hd,mo 1 b1 _ _ hb1 (by omega),if_neg (by omega)]
  by_cases q1:b1<128
  ·refine (next_second2lo s i w hs b b1 (by omega) hb hb1 (by omega) c2 (by omega) (by rw [hl]; exact q1)).mono fun e w' ⟨he,hw⟩=>NextPost.mk ?_ he hw
   rw [hd,mo 1 b1 _ _ hb1 (by omega),if_neg (by omega)]
  by_cases q2:191<b1
  ·refine (next_second2hi s i w hs b b1 (by omega) hb hb1 (by omega) c2 (by omega) (by rw [hh]; exact q2)).mono fun e w' ⟨he,hw⟩=>NextPost.mk ?_ he hw
   rw [hd,mo 1 b1 _ _ hb1 (by omega),if_neg (by omega)]
  ·refine (next_good2 s i w hs b b1 (by omega) hb hb1 (by omega) c2 (by rw [hl]; omega) (by rw [hh]; omega)).mono fun e w' ⟨he,hw⟩=>NextPost.mk ?_ he hw
   rw [hd,my 1 b1 _ _ hb1 (by omega) (by omega) (by omega),if_pos (by omega)]
 by_cases c3:b≤239
 ·have hl:lowOf b=low3 b:=by unfold lowOf low3; omega
  have hh:highOf b=high3 b:=by unfold highOf high3; omega
  have hd:dec s i=if moreOf s (i+1) (low3 b) (high3 b)<0∨moreOf s (i+2) 128 191<0 then (65533,1) else ((b - 224) * 4096+moreOf s (i+1) (low3 b) (high3 b) * 64+moreOf s (i+2) 128 191,3):=by
   unfold dec; rw [hb,if_neg k1,if_neg (by omega),if_pos (by omega)]; unfold three; rw [hb]
  have hlo:128≤low3 b:=by unfold low3; omega
  by_cases q:s.size<i+3
  ·refine (next_short3 s i w hs b hi hb (by omega) c3 q).mono fun e w' ⟨he,hw⟩=>NextPost.mk ?_ he hw
   rw [hd,mo 2 b2 _ _ hb2 (by omega),if_pos (by omega)]
  by_cases q1:b1<low3 b
  ·refine (next_second3lo s i w hs b b1 (by omega) hb hb1 (by omega) c3 (by omega) (by rw [hl]; exact q1)).mono fun e w' ⟨he,hw⟩=>NextPost.mk ?_ he hw
   rw [hd,mo 1 b1 _ _ hb1 (by omega),if_pos (by omega)]
  by_cases q2:high3 b<b1
  ·refine (next_second3hi s i w hs b b1 (by omega) hb hb1 (by omega) c3 (by omega) (by rw [hh]; exact q2)).mono fun e w' ⟨he,hw⟩=>NextPost.mk ?_ he hw
   rw [hd,mo 1 b1 _ _ hb1 (by omega),if_pos (by omega)]
  by_cases q3:b2<128∨191<b2
  ·refine (next_bad3_2 s i w hs b b1 b2 (by omega) hb hb1 hb2 (by omega) c3 (by rw [hl]; omega) (by rw [hh]; omega) (by omega) q3).mono fun e w' ⟨he,hw⟩=>NextPost.mk ?_ he hw
   rw [hd,mo 2 b2 _ _ hb2 (by omega),if_pos (by omega)]
  ·refine (next_good3 s i w hs b b1 b2 (by omega) hb hb1 hb2 (by omega) c3 (by rw [hl]; omega) (by rw [hh]; omega) (by omega) (by omega)).mono fun e w' ⟨he,hw⟩=>NextPost.mk ?_ he hw
   rw [hd,my 1 b1 _ _ hb1 (by omega) (by omega) (by omega),my 2 b2 _ _ hb2 (by omega) (by omega) (by omega),if_neg (by omega)]
   exact pair_ext (by omega) rfl
 ·have hl:lowOf b=low4 b:=by unfold lowOf low4; omega
  have hh:highOf b=high4 b:=by unfold highOf high4; omega
  have hd:dec s i=if moreOf s (i+1) (low4 b) (high4 b)<0∨moreOf s (i+2) 128 191<0∨moreOf s (i+3) 128 191<0 then (65533,1) else ((b - 240) * 262144+moreOf s (i+1) (low4 b) (high4 b) * 4096+moreOf s (i+2) 128 191 * 64+moreOf s (i+3) 128 191,4):=by
   unfold dec; rw [hb,if_neg k1,if_neg (by omega),if_neg (by omega),if_pos (by omega)]; unfold four; rw [hb]
  have hlo:128≤low4 b:=by unfold low4; omega
  by_cases q:s.size<i+4
  ·refine (next_short4 s i w hs b hi hb (by omega) (by omega) q).mono fun e w' ⟨he,hw⟩=>NextPost.mk ?_ he hw
   rw [hd,mo 3 b3 _ _ hb3 (by omega),if_pos (by omega)]
  by_cases q1:b1<low4 b
  ·refine (next_second4lo s i w hs b b1 (by omega) hb hb1 (by omega) (by omega) (by omega) (by rw [hl]; exact q1)).mono fun e w' ⟨he,hw⟩=>NextPost.mk ?_ he hw
   rw [hd,mo 1 b1 _ _ hb1 (by omega),if_pos (by omega)]
  by_cases q2:high4 b<b1
  ·refine (next_second4hi s i w hs b b1 (by omega) hb hb1 (by omega) (by omega) (by omega) (by rw [hh]; exact q2)).mono fun e w' ⟨he,hw⟩=>NextPost.mk ?_ he hw
   rw [hd,mo 1 b1 _ _ hb1 (by omega),if_pos (by omega)]
  by_cases q3:b2<128∨191<b2
  ·refine (next_bad4_2 s i w hs b b1 b2 (by omega) hb hb1 hb2 (by omega) (by omega) (by rw [hl]; omega) (by rw [hh]; omega) (by omega) q3).mono fun e w' ⟨he,hw⟩=>NextPost.mk ?_ he hw
   rw [hd,mo 2 b2 _ _ hb2 (by omega),if_pos (by omega)]
  by_cases q4:b3<128∨191<b3
  ·refine (next_bad4_3 s i w hs b b1 b2 b3 (by omega) hb hb1 hb2 hb3 (by omega) (by omega) (by rw [hl]; omega) (by rw [hh]; omega) (by omega) (by omega) (by omega) q4).mono fun e w' ⟨he,hw⟩=>NextPost.mk ?_ he hw
   rw [hd,mo 3 b3 _ _ hb3 (by omega),if_pos (by omega)]
  ·refine (next_good4 s i w hs b b1 b2 b3 (by omega) hb hb1 hb2 hb3 (by omega) (by omega) (by rw [hl]; omega) (by rw [hh]; omega) (by omega) (by omega) (by omega) (by omega)).mono fun e w' ⟨he,hw⟩=>NextPost.mk ?_ he hw
   rw [hd,my 1 b1 _ _ hb1 (by omega) (by omega) (by omega),my 2 b2 _ _ hb2 (by omega) (by omega) (by omega),my 3 b3 _ _ hb3 (by omega) (by omega) (by omega),if_neg (by omega)]
   exact pair_ext (by omega) rfl

end Go.Proofs.YtmcoomlkbgiboaaGreatDoor

/- Contracts of the reference of layer 1 that read one code point. No condition but the length of a string. -/
set_option linter.all false
namespace Go.Proofs.YtmcoomlkbgiboaaGreatDoor
open Go.RowKit

def cleanOf (c:Int):Bool:=decide (c=10∨32≤c∧c≠127)
theorem keep_cell {W w1:World} (hb:Kept W w1):(∀ b o,b<W.heap.size→w1.cell? ⟨b,o,none⟩=W.cell? ⟨b,o,none⟩)∧(∀ b o,b<W.heap.size→w1.frozen? ⟨b,o,none⟩=W.frozen? ⟨b,o,none⟩) :=
 ⟨fun b o h=>hb.cell (p:=⟨b,o,none⟩) h,fun b o h=>hb.frozen (p:=⟨b,o,none⟩) h⟩

end Go.Proofs.YtmcoomlkbgiboaaGreatDoor
