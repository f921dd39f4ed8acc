/- Blocks known whole; the division at a brace; wrappers of the library's Cut, CutPrefix, Count. Conditions: lengths. -/
import Derived.Test.YtmcoomlkbgiboaaGreatDoorU02
import Derived.Test.YtmcoomlkbgiboaaGreatDoorU01
set_option linter.all false
set_option maxRecDepth 100000
set_option maxHeartbeats 1600000
namespace Go.Proofs.YtmcoomlkbgiboaaGreatDoor
open Go.RowKit
def Blk (w:World) (g:Nat) (t:TypeId) (cs:Array Value):Prop:=w.heap[g]? = some (.cells cs t (0,0))
theorem Blk.lt {w:World} {g:Nat} {t:TypeId} {cs:Array Value} (h:Blk w g t cs):g<w.heap.size:=by
 rcases Nat.lt_or_ge g w.heap.size with q|q
 ·exact q
 ·unfold Blk at h;rw[Array.getElem?_eq_none q] at h;cases h
theorem Blk.cell {w:World} {g:Nat} {t:TypeId} {cs:Array Value} (h:Blk w g t cs) (i:Nat) (v:Value) (hi:cs[i]? = some v):w.cell? ⟨g,i,none⟩=some v:=by
 unfold Blk at h;simp only[World.cell?,h];simpa using hi
theorem Blk.free {w:World} {g:Nat} {t:TypeId} {cs:Array Value} (h:Blk w g t cs) (i:Nat):w.frozen? ⟨g,i,none⟩=false:=by
 unfold Blk at h;simp only[World.frozen?,h];simp
theorem Blk.kept {w w':World} {g:Nat} {t:TypeId} {cs:Array Value} (h:Blk w g t cs) (k:Kept w w'):Blk w' g t cs:=by
 have:=h.lt;unfold Blk at h ⊢;rw[k.block g this];exact h
theorem Blk.new (w:World) (t:TypeId) (cs:Array Value):Blk (w.alloc (.cells cs t)) w.heap.size t cs:=heap_alloc_new w _
theorem Blk.alloc {w:World} {g:Nat} {t:TypeId} {cs:Array Value} (h:Blk w g t cs) (o:Obj):Blk (w.alloc o) g t cs:=h.kept (zaA w o)
theorem Blk.set {w:World} {g:Nat} {t:TypeId} {cs:Array Value} (h:Blk w g t cs) (i:Nat) (v:Value):Blk (w.setCell ⟨g,i,none⟩ v) g t (cs.setIfInBounds i v):=by
 unfold Blk at h ⊢;simp only[World.setCell,Array.getElem?_modify,h];simp
theorem Blk.other {w:World} {g:Nat} {t:TypeId} {cs:Array Value} (h:Blk w g t cs) (g' i:Nat) (v:Value) (hne:g≠g'):Blk (w.setCell ⟨g',i,none⟩ v) g t cs:=by
 unfold Blk at h ⊢;rw[Below.heap_setCell _ _ _ _ hne];exact h
theorem zb3 {a w:World} (h:Kept a w) (g i:Nat) (v:Value) (hg:a.heap.size<=g):Kept a (w.setCell ⟨g,i,none⟩ v):=Below.setCell h hg v
theorem zcG (w:World) (a:Addr) (v:Value):(w.setCell a v).heap.size=w.heap.size:=by simp [World.setCell]
def zaP (c:UInt8) (l:Bs):Nat:=(l.takeWhile (· ≠ c)).length
theorem zjX:∀ (l:Bs) (c:UInt8),(zaP c l<l.length/\Lib.index l [c]=zaP c l)\/(zaP c l=l.length/\Lib.index l [c] = -1)
 | [],c=>.inr ⟨rfl,rfl⟩
 | b :: l,c=>by
  unfold Lib.index zaP;by_cases hb:c=b
  ·subst hb;left;refine ⟨by simp,?_⟩;have e:[c].isPrefixOf (c :: l)=true:=(by simp [List.isPrefixOf]);rw[e];simp
  ·have e:[c].isPrefixOf (b :: l)=false:=(by simp [List.isPrefixOf,hb]);have e2:((b :: l).takeWhile (· ≠ c)).length=zaP c l+1:=by
    rw[List.takeWhile_cons,if_pos (by simpa using fun q=>hb q.symm)];rfl
   rw[e,e2];simp only[Bool.false_eq_true,if_false,List.length_cons];rcases zjX l c with ⟨h1,h2⟩|⟨h1,h2⟩
   ·left;have hne:¬ ((zaP c l:Int) == -1)=true:=(by simp only[beq_iff_eq];omega);exact ⟨by omega,by rw[h2,if_neg hne];omega⟩
   ·right;exact ⟨by omega,by rw[h2];rfl⟩
theorem zsB (c:UInt8) (l:Bs):∀ (i:Nat) (_:i<zaP c l) (hi:i<l.length),l[i]≠c:=by
 induction l with
 | nil=>intro i _ hi;simp at hi
 | cons b l ih =>
  intro i h hi;by_cases hb:b=c
  ·subst hb;have e:zaP b (b :: l)=0:=(by unfold zaP;simp);rw[e] at h;omega
  ·have e:zaP c (b :: l)=zaP c l+1:=(by unfold zaP;rw[List.takeWhile_cons,if_pos (by simpa using hb)];rfl);cases i with
   | zero=>exact hb
   | succ i=>exact ih i (by rw[e] at h;omega) (by simpa using hi)
theorem zlA (c:UInt8) (l:Bs) (h:zaP c l<l.length):l[zaP c l]=c:=by
 induction l with
 | nil=>simp at h
 | cons b l ih =>
  by_cases hb:b=c
  ·subst hb;have e:zaP b (b :: l)=0:=(by unfold zaP;simp);simp only[e];rfl
  ·have e:zaP c (b :: l)=zaP c l+1:=(by unfold zaP;rw[List.takeWhile_cons,if_pos (by simpa using hb)];rfl);simp only[e];exact ih (by rw[e] at h;simpa using h)
theorem zxG (l:Bs) (c:UInt8) (w:World) (hg:Gnd w) (hl:l.length<=1000000000) :
  Calls Tryz.prog 91 #[.string (bs l),.string (bs [c])] w fun e w' =>
   e=.returned (.tuple (if zaP c l<l.length then #[.string (bs (l.take (zaP c l))),.string (bs (l.drop (zaP c l+1))),.bool true] else #[.string (bs l),.string (bs []),.bool false]))/\∃ n,w'=w.drewN n:=by
 obtain ⟨m,hm⟩:=hg;refine (Tryz.strings_Cut (bs l) (bs [c]) m w (by simp;omega) hm).mono ?_;rintro e w' ⟨rfl,hw⟩;refine ⟨?_,hw⟩;simp only[zfL,zcO];unfold Lib.cut;rcases zjX l c with ⟨h1,h2⟩|⟨h1,h2⟩
 ·rw[if_pos (by rw[h2];omega),if_pos h1,h2];simp
 ·rw[if_neg (by rw[h2];omega),if_neg (by omega)]
def zaI (s:ByteArray) (i:Nat) (low high:Int):Int:=if s.size<=i\/zaC s i<low\/high<zaC s i then -1 else zaC s i - 128
def zfO (b:Int):Int:=if b=224 then 160 else 128
def zc3 (b:Int):Int:=if b=237 then 159 else 191
def zfI (b:Int):Int:=if b=240 then 144 else 128
def zc4 (b:Int):Int:=if b=244 then 143 else 191
def zhI (s:ByteArray) (i:Nat):Int × Int :=
 if zaI s (i+1) (zfO (zaC s i)) (zc3 (zaC s i))<0\/zaI s (i+2) 128 191<0 then (65533,1)
 else ((zaC s i - 224) * 4096+zaI s (i+1) (zfO (zaC s i)) (zc3 (zaC s i)) * 64+zaI s (i+2) 128 191,3)
def zsC (s:ByteArray) (i:Nat):Int × Int :=
 if zaI s (i+1) (zfI (zaC s i)) (zc4 (zaC s i))<0\/zaI s (i+2) 128 191<0\/zaI s (i+3) 128 191<0 then (65533,1)
 else ((zaC s i - 240) * 262144+zaI s (i+1) (zfI (zaC s i)) (zc4 (zaC s i)) * 4096+zaI s (i+2) 128 191 * 64+zaI s (i+3) 128 191,4)
def dec (s:ByteArray) (i:Nat):Int × Int :=
 if zaC s i<128 then (zaC s i,1)
 else if 194<=zaC s i/\zaC s i<=223 then
  if 0<=zaI s (i+1) 128 191 then ((zaC s i - 192) * 64+zaI s (i+1) 128 191,2) else (65533,1)
 else if 224<=zaC s i/\zaC s i<=239 then zhI s i
 else if 240<=zaC s i/\zaC s i<=244 then zsC s i
 else (65533,1)
theorem zDb {a b c d:Nat} (h:a=c) (k:b=d):(a,b)=(c,d):=by rw[h,k]
theorem zhZ {a b c d:Int} (h:a=c) (k:b=d):(a,b)=(c,d):=by rw[h,k]
theorem zgP {s:ByteArray} {i:Nat} {l h:Int} (hh:0<=zaI s i l h):i<s.size/\l<=zaC s i/\zaC s i<=h/\zaI s i l h=zaC s i - 128:=by
 unfold zaI at hh ⊢;split at hh
 ·omega
 ·rw[if_neg (by assumption)];omega
def zCO (b0 b1 b2 b3:Nat) (e1 e2 e3:Bool):Nat × Nat :=
 let cont (e:Bool) (b:Nat):Bool:=e && b / 64 == 2
 if b0<0x80 then (b0,1)
 else if b0 / 32 == 6 && cont e1 b1 then
  let c:=(b0 % 32) * 64+b1 % 64
  if c ≥ 0x80 then (c,2) else (Utf8.runeError,1)
 else if b0 / 16 == 14 && cont e1 b1 && cont e2 b2 then
  let c:=(b0 % 16) * 4096+(b1 % 64) * 64+b2 % 64
  if c ≥ 0x800 && Utf8.valid c then (c,3) else (Utf8.runeError,1)
 else if b0 / 8 == 30 && cont e1 b1 && cont e2 b2 && cont e3 b3 then
  let c:=(b0 % 8) * 262144+(b1 % 64) * 4096+(b2 % 64) * 64+b3 % 64
  if c ≥ 0x10000 && Utf8.valid c then (c,4) else (Utf8.runeError,1)
 else (Utf8.runeError,1)
theorem zsD (s:ByteArray) (i:Nat):Utf8.decode s i=zCO (s.get! i).toNat (s.get! (i+1)).toNat (s.get! (i+2)).toNat (s.get! (i+3)).toNat (decide (i+1<s.size)) (decide (i+2<s.size)) (decide (i+3<s.size)):=rfl
theorem zAW (b0 b1 b2 b3:Nat) (e1 e2 e3:Bool) (h:128<=b0/\b0<224) :
  zCO b0 b1 b2 b3 e1 e2 e3=if 194<=b0/\e1=true/\128<=b1/\b1<192 then ((b0 - 192) * 64+(b1 - 128),2) else (65533,1):=by
 unfold zCO;rw[if_neg (by omega)];have h3:(b0 / 16 == 14)=false:=(by simp;omega);have h4:(b0 / 8 == 30)=false:=(by simp;omega);simp only[h3,h4,Bool.false_and,Bool.false_eq_true,if_false,Utf8.runeError];cases e1 <;> simp
 ·by_cases k:b0 / 32=6/\b1 / 64=2
  ·rw[if_pos k];by_cases q:194<=b0
   ·rw[if_pos (by omega),if_pos (by omega)];apply zDb <;> omega
   ·rw[if_neg (by omega),if_neg (by omega)]
  ·rw[if_neg k,if_neg (by omega)]
theorem zp2 (c:Nat):Utf8.valid (c:Int)=decide (c<55296\/(57344<=c/\c<=1114111)):=by
 unfold Utf8.valid;rw[Bool.eq_iff_iff];simp only[Bool.or_eq_true,Bool.and_eq_true,decide_eq_true_eq];omega
theorem zuV (b0 b1 b2 b3:Nat) (e1 e2 e3:Bool) (h:224<=b0/\b0<240) :
  zCO b0 b1 b2 b3 e1 e2 e3=if e1=true/\e2=true/\(b0=224->160<=b1)/\128<=b1/\(b0=237->b1<=159)/\b1<=191/\128<=b2/\b2<192 then ((b0 - 224) * 4096+(b1 - 128) * 64+(b2 - 128),3) else (65533,1):=by
 unfold zCO;rw[if_neg (by omega)];have h2:(b0 / 32 == 6)=false:=(by simp;omega);have h4:(b0 / 8 == 30)=false:=(by simp;omega);have h3:b0 / 16=14:=(by omega);simp only[h2,h4,h3,Bool.false_and,Bool.false_eq_true,if_false,Utf8.runeError,zp2];cases e1 <;> cases e2 <;> simp;by_cases k:b1 / 64=2/\b2 / 64=2
 ·rw[if_pos k]
  split <;> split <;> first|(exfalso;omega)|(apply zDb <;> omega)
 ·rw[if_neg k,if_neg (by omega)]
theorem zxH (b0 b1 b2 b3:Nat) (e1 e2 e3:Bool) (h:240<=b0/\b0<256) :
  zCO b0 b1 b2 b3 e1 e2 e3=if b0<=244/\e1=true/\e2=true/\e3=true/\(b0=240->144<=b1)/\128<=b1/\(b0=244->b1<=143)/\b1<=191/\128<=b2/\b2<192/\128<=b3/\b3<192 then ((b0 - 240) * 262144+(b1 - 128) * 4096+(b2 - 128) * 64+(b3 - 128),4) else (65533,1):=by
 unfold zCO;rw[if_neg (by omega)];have h2:(b0 / 32 == 6)=false:=(by simp;omega);have h3:(b0 / 16 == 14)=false:=(by simp;omega);simp only[h2,h3,Bool.false_and,Bool.false_eq_true,if_false,Utf8.runeError,zp2];cases e1 <;> cases e2 <;> cases e3 <;> simp;by_cases k:b0 / 8=30/\b1 / 64=2/\b2 / 64=2/\b3 / 64=2
 ·rw[if_pos (by simpa [and_assoc] using k)]
  split <;> split <;> first|(exfalso;omega)|(apply zDb <;> omega)
 ·rw[if_neg (by simpa [and_assoc] using k),if_neg (by omega)]
theorem zCP (s:ByteArray) (i:Nat):dec s i=(((Utf8.decode s i).1:Int),((Utf8.decode s i).2:Int)):=by
 rw[zsD];have e0:=zgN s i;have e1:=zgN s (i+1);have e2:=zgN s (i+2);have e3:=zgN s (i+3);have u0:(s.get! i).toNat<256:=(s.get! i).toNat_lt;generalize (s.get! i).toNat=b0 at *;generalize (s.get! (i+1)).toNat=b1 at *;generalize (s.get! (i+2)).toNat=b2 at *;generalize (s.get! (i+3)).toNat=b3 at *;unfold dec;rw[e0];by_cases k1:b0<128
 ·rw[if_pos (by omega)];unfold zCO;rw[if_pos (by omega)];rfl
 rw[if_neg (by omega)];by_cases k2:b0<224
 ·rw[zAW _ _ _ _ _ _ _ ⟨by omega,k2⟩,if_neg (c:=224<=(b0:Int)/\_) (by omega),if_neg (c:=240<=(b0:Int)/\_) (by omega)];simp only[decide_eq_true_eq];by_cases c:194<=b0/\i+1<s.size/\128<=b1/\b1<192
  ·have m1:zaI s (i+1) 128 191=b1 - 128:=(by unfold zaI;rw[e1,if_neg (by omega)]);rw[if_pos c,if_pos (by omega),m1,if_pos (by omega)];apply zhZ <;> simp only <;> omega
  ·rw[if_neg c];by_cases c0:194<=(b0:Int)/\(b0:Int)<=223
   ·have m1:zaI s (i+1) 128 191 = -1:=(by unfold zaI;rw[e1,if_pos (by omega)]);rw[if_pos c0,m1,if_neg (by omega)];rfl
   ·rw[if_neg c0];rfl
 by_cases k3:b0<240
 ·rw[zuV _ _ _ _ _ _ _ ⟨by omega,k3⟩,if_neg (by omega),if_pos (by omega)];simp only[decide_eq_true_eq];unfold zhI;rw[e0];have hl:(b0=224/\zfO b0=160)\/(b0≠224/\zfO b0=128):=(by unfold zfO;by_cases q:b0=224 <;> simp [q];omega);have hh:(b0=237/\zc3 b0=159)\/(b0≠237/\zc3 b0=191):=(by unfold zc3;by_cases q:b0=237 <;> simp [q];omega);by_cases c:i+1<s.size/\i+2<s.size/\(b0=224->160<=b1)/\128<=b1/\(b0=237->b1<=159)/\b1<=191/\128<=b2/\b2<192
  ·have m1:zaI s (i+1) (zfO b0) (zc3 b0)=b1 - 128:=(by unfold zaI;rw[e1,if_neg (by omega)]);have m2:zaI s (i+2) 128 191=b2 - 128:=(by unfold zaI;rw[e2,if_neg (by omega)]);rw[if_pos c,m1,m2,if_neg (by omega)];apply zhZ <;> simp only <;> omega
  ·rw[if_neg c];have hn:zaI s (i+1) (zfO b0) (zc3 b0)<0\/zaI s (i+2) 128 191<0:=by
    by_cases q:i+1<s.size/\zfO b0<=b1/\b1<=zc3 b0
    ·right;unfold zaI;rw[e2,if_pos (by omega)];omega
    ·left;unfold zaI;rw[e1,if_pos (by omega)];omega
   rw[if_pos hn];rfl
 ·rw[zxH _ _ _ _ _ _ _ ⟨by omega,u0⟩,if_neg (by omega),if_neg (by omega)];simp only[decide_eq_true_eq];by_cases c0:b0<=244
  ·rw[if_pos (by omega)];unfold zsC;rw[e0];have hl:(b0=240/\zfI b0=144)\/(b0≠240/\zfI b0=128):=(by unfold zfI;by_cases q:b0=240 <;> simp [q];omega);have hh:(b0=244/\zc4 b0=143)\/(b0≠244/\zc4 b0=191):=(by unfold zc4;by_cases q:b0=244 <;> simp [q];omega);by_cases c:b0<=244/\i+1<s.size/\i+2<s.size/\i+3<s.size/\(b0=240->144<=b1)/\128<=b1/\(b0=244->b1<=143)/\b1<=191/\128<=b2/\b2<192/\128<=b3/\b3<192
   ·have m1:zaI s (i+1) (zfI b0) (zc4 b0)=b1 - 128:=(by unfold zaI;rw[e1,if_neg (by omega)]);have m2:zaI s (i+2) 128 191=b2 - 128:=(by unfold zaI;rw[e2,if_neg (by omega)]);have m3:zaI s (i+3) 128 191=b3 - 128:=(by unfold zaI;rw[e3,if_neg (by omega)]);rw[if_pos c,m1,m2,m3,if_neg (by omega)];apply zhZ <;> simp only <;> omega
   ·rw[if_neg c];have hn:zaI s (i+1) (zfI b0) (zc4 b0)<0\/zaI s (i+2) 128 191<0\/zaI s (i+3) 128 191<0:=by
     by_cases q:i+1<s.size/\zfI b0<=b1/\b1<=zc4 b0
     ·right;by_cases q2:i+2<s.size/\128<=b2/\b2<192
      ·right;unfold zaI;rw[e3,if_pos (by omega)];omega
      ·left;unfold zaI;rw[e2,if_pos (by omega)];omega
     ·left;unfold zaI;rw[e1,if_pos (by omega)];omega
    rw[if_pos hn];rfl
  ·rw[if_neg (by omega),if_neg (by omega)];rfl
def za2 (b:Int):Int:=if b<128 then 1 else if 194<=b/\b<=223 then 2 else if 224<=b/\b<=239 then 3 else if 240<=b/\b<=244 then 4 else 0
def zbJ (b:Int):Int:=if b=224 then 160 else if b=240 then 144 else 128
def zaZ (b:Int):Int:=if b=237 then 159 else if b=244 then 143 else 191
def zgD (c:Int):Bool:=decide (c<32/\c≠10\/c=127)
theorem zbK (b:Int) (w:World) (h0:0<=b) (h1:b<256) :
  Calls Tryz.prog 223 #[.int .u8 b] w fun e w'=>e=.returned (.int .i64 (za2 b))/\w=w':=by
 go_enter Tryz.func223,Tryz.ntmps223
 go_wp2
 all_goals go_ret
 all_goals exact ⟨by simp [za2];omega,rfl⟩
theorem zbY (b:Int) (w:World) :
  Calls Tryz.prog 224 #[.int .u8 b] w fun e w'=>e=.returned (.tuple #[.int .u8 (zbJ b),.int .u8 (zaZ b)])/\w=w':=by
 go_enter Tryz.func224,Tryz.ntmps224
 go_wp2
 all_goals go_ret2
 all_goals exact ⟨zAQ (by simp only[beq_iff_eq,beq_eq_false_iff_ne,ne_eq] at *;unfold zbJ;omega) (by simp only[beq_iff_eq,beq_eq_false_iff_ne,ne_eq] at *;unfold zaZ;omega),rfl⟩
theorem zsE (c:Int) (w:World) :
  Calls Tryz.prog 181 #[.int .i64 c] w fun e w'=>e=.returned (.bool (zgD c))/\w=w':=by
 go_enter Tryz.func181,Tryz.ntmps181
 go_wp2
 all_goals go_ret
 all_goals exact ⟨zaO (by unfold zgD;rw[Bool.eq_iff_iff];simp;omega),rfl⟩
theorem zp3 (n:Int) (h₀:0<=n) (h₁:n<2 ^ 31):IntKind.i64.wrap n=n:=by rw[IntKind.wrap_i64];omega
theorem zgQ (i:Nat) (hi:i<=31) (x:Int) (h0:0<=x) (h1:x<256):bits .and .i64 x (2 ^ i - 1)=x % 2 ^ i :=
 bits_mask .i64 31 (by decide) zp3 i hi x h0 (by omega)
theorem zcP (x y:Int) (hx0:0<=x) (hx:x % 64=0) (hx1:x<1000000000) (h0:0<=y) (h1:y<64):bits .or .i64 x y=x+y :=
 bits_join .i64 31 (by decide) zp3 6 x y hx0 (by omega) (by omega) h0 (by omega) (by omega)
def NextPost (s:ByteArray) (i:Nat) (w:World) (e:Ending) (w':World):Prop:=e=.returned (.tuple #[.int .i64 (dec s i).1,.int .i64 (dec s i).2])/\∃ n,w'=w.drewN n
theorem NextPost.mk {s:ByteArray} {i:Nat} {w:World} {e:Ending} {w':World} {c n:Int} (h:dec s i=(c,n)) (he:e=.returned (.tuple #[.int .i64 c,.int .i64 n])) (hw:∃ n,w'=w.drewN n):NextPost s i w e w':=by
 unfold NextPost;rw[h];exact ⟨he,hw⟩
theorem zcH (w:World):∃ n,w=w.drewN n:=⟨0,rfl⟩
theorem zeZ (w:World) (n:Nat):∃ m,w.drewN n=w.drewN m:=⟨n,rfl⟩
theorem zuW (s:ByteArray) (i:Nat) (w:World) (hs:s.size<=1000000000) (b:Int) (hi:i+0<s.size) (hb:zaC s i=b) (k0:b<128) :
  Calls Tryz.prog 180 #[.string s,.int .i64 i] w fun e w'=>e=.returned (.tuple #[.int .i64 (b),.int .i64 1])/\∃ n,w'=w.drewN n:=by
 have i0:=za3 (P:=Tryz.prog) (t:=9) Tryz.underlying9 s i (by omega) i rfl;rw[hb] at i0;have hbl:=zaM s i;have hbh:=zaL s i;rw[hb] at hbl hbh;clear hb;have hw:za2 b=1:=(by unfold za2;omega);go_enter Tryz.func180,Tryz.ntmps180;go_wp2_with fail;refine (zbK _ _ (by omega) (by omega)).mono ?_;rintro e w' ⟨rfl,rfl⟩;rw[hw];go_wp2_with fail;go_ret2;exact ⟨rfl,zcH _⟩
theorem zAX (s:ByteArray) (i:Nat) (w:World) (hs:s.size<=1000000000) (b:Int) (hi:i+0<s.size) (hb:zaC s i=b) (k0:128<=b) (k1:b<194\/244<b) :
  Calls Tryz.prog 180 #[.string s,.int .i64 i] w fun e w'=>e=.returned (.tuple #[.int .i64 (65533),.int .i64 1])/\∃ n,w'=w.drewN n:=by
 have i0:=za3 (P:=Tryz.prog) (t:=9) Tryz.underlying9 s i (by omega) i rfl;rw[hb] at i0;have hbl:=zaM s i;have hbh:=zaL s i;rw[hb] at hbl hbh;clear hb;have hw:za2 b=0:=(by unfold za2;omega);go_enter Tryz.func180,Tryz.ntmps180;go_wp2_with fail;refine (zbK _ _ (by omega) (by omega)).mono ?_;rintro e w' ⟨rfl,rfl⟩;rw[hw];go_wp2_with fail;go_ret2;exact ⟨rfl,zcH _⟩
theorem zsF (s:ByteArray) (i:Nat) (w:World) (hs:s.size<=1000000000) (b:Int) (hi:i+0<s.size) (hb:zaC s i=b) (k0:194<=b) (k1:b<=223) (k2:s.size<i+2) :
  Calls Tryz.prog 180 #[.string s,.int .i64 i] w fun e w'=>e=.returned (.tuple #[.int .i64 (65533),.int .i64 1])/\∃ n,w'=w.drewN n:=by
 have i0:=za3 (P:=Tryz.prog) (t:=9) Tryz.underlying9 s i (by omega) i rfl;rw[hb] at i0;have hbl:=zaM s i;have hbh:=zaL s i;rw[hb] at hbl hbh;clear hb;have hw:za2 b=2:=(by unfold za2;omega);go_enter Tryz.func180,Tryz.ntmps180;go_wp2_with fail;refine (zbK _ _ (by omega) (by omega)).mono ?_;rintro e w' ⟨rfl,rfl⟩;rw[hw];go_wp2_with fail;go_ret2;exact ⟨rfl,zcH _⟩
theorem zsG (s:ByteArray) (i:Nat) (w:World) (hs:s.size<=1000000000) (b:Int) (hi:i+0<s.size) (hb:zaC s i=b) (k0:224<=b) (k1:b<=239) (k2:s.size<i+3) :
  Calls Tryz.prog 180 #[.string s,.int .i64 i] w fun e w'=>e=.returned (.tuple #[.int .i64 (65533),.int .i64 1])/\∃ n,w'=w.drewN n:=by
 have i0:=za3 (P:=Tryz.prog) (t:=9) Tryz.underlying9 s i (by omega) i rfl;rw[hb] at i0;have hbl:=zaM s i;have hbh:=zaL s i;rw[hb] at hbl hbh;clear hb;have hw:za2 b=3:=(by unfold za2;omega);go_enter Tryz.func180,Tryz.ntmps180;go_wp2_with fail;refine (zbK _ _ (by omega) (by omega)).mono ?_;rintro e w' ⟨rfl,rfl⟩;rw[hw];go_wp2_with fail;go_ret2;exact ⟨rfl,zcH _⟩
theorem zsH (s:ByteArray) (i:Nat) (w:World) (hs:s.size<=1000000000) (b:Int) (hi:i+0<s.size) (hb:zaC s i=b) (k0:240<=b) (k1:b<=244) (k2:s.size<i+4) :
  Calls Tryz.prog 180 #[.string s,.int .i64 i] w fun e w'=>e=.returned (.tuple #[.int .i64 (65533),.int .i64 1])/\∃ n,w'=w.drewN n:=by
 have i0:=za3 (P:=Tryz.prog) (t:=9) Tryz.underlying9 s i (by omega) i rfl;rw[hb] at i0;have hbl:=zaM s i;have hbh:=zaL s i;rw[hb] at hbl hbh;clear hb;have hw:za2 b=4:=(by unfold za2;omega);go_enter Tryz.func180,Tryz.ntmps180;go_wp2_with fail;refine (zbK _ _ (by omega) (by omega)).mono ?_;rintro e w' ⟨rfl,rfl⟩;rw[hw];go_wp2_with fail;go_ret2;exact ⟨rfl,zcH _⟩
theorem zmT (s:ByteArray) (i:Nat) (w:World) (hs:s.size<=1000000000) (b:Int) (b1:Int) (hi:i+1<s.size) (hb:zaC s i=b) (hb1:zaC s (i+1)=b1) (k0:194<=b) (k1:b<=223) (k2:i+2<=s.size) (k3:b1<zbJ b) :
  Calls Tryz.prog 180 #[.string s,.int .i64 i] w fun e w'=>e=.returned (.tuple #[.int .i64 (65533),.int .i64 1])/\∃ n,w'=w.drewN n:=by
 have i0:=za3 (P:=Tryz.prog) (t:=9) Tryz.underlying9 s i (by omega) i rfl;rw[hb] at i0;have i1:=za3 (P:=Tryz.prog) (t:=9) Tryz.underlying9 s (i+1) (by omega) (i+1) (by omega);rw[hb1] at i1;have hbl:=zaM s i;have hbh:=zaL s i;rw[hb] at hbl hbh;have hbl1:=zaM s (i+1);have hbh1:=zaL s (i+1);rw[hb1] at hbl1 hbh1;clear hb hb1;have hw:za2 b=2:=(by unfold za2;omega);have HL:zbJ b<=160:=(by unfold zbJ;omega);have HL':128<=zbJ b:=(by unfold zbJ;omega);have HH:143<=zaZ b:=(by unfold zaZ;omega);have HH':zaZ b<=191:=(by unfold zaZ;omega);go_enter Tryz.func180,Tryz.ntmps180;go_wp2_with fail;refine (zbK _ _ (by omega) (by omega)).mono ?_;rintro e w' ⟨rfl,rfl⟩;rw[hw];go_wp2_with fail;refine (zbY _ _).mono ?_;rintro e w' ⟨rfl,rfl⟩;go_wp2_with fail
 all_goals go_ret2
 all_goals exact ⟨rfl,zcH _⟩
theorem zmU (s:ByteArray) (i:Nat) (w:World) (hs:s.size<=1000000000) (b:Int) (b1:Int) (hi:i+1<s.size) (hb:zaC s i=b) (hb1:zaC s (i+1)=b1) (k0:194<=b) (k1:b<=223) (k2:i+2<=s.size) (k3:zaZ b<b1) :
  Calls Tryz.prog 180 #[.string s,.int .i64 i] w fun e w'=>e=.returned (.tuple #[.int .i64 (65533),.int .i64 1])/\∃ n,w'=w.drewN n:=by
 have i0:=za3 (P:=Tryz.prog) (t:=9) Tryz.underlying9 s i (by omega) i rfl;rw[hb] at i0;have i1:=za3 (P:=Tryz.prog) (t:=9) Tryz.underlying9 s (i+1) (by omega) (i+1) (by omega);rw[hb1] at i1;have hbl:=zaM s i;have hbh:=zaL s i;rw[hb] at hbl hbh;have hbl1:=zaM s (i+1);have hbh1:=zaL s (i+1);rw[hb1] at hbl1 hbh1;clear hb hb1;have hw:za2 b=2:=(by unfold za2;omega);have HL:zbJ b<=160:=(by unfold zbJ;omega);have HL':128<=zbJ b:=(by unfold zbJ;omega);have HH:143<=zaZ b:=(by unfold zaZ;omega);have HH':zaZ b<=191:=(by unfold zaZ;omega);go_enter Tryz.func180,Tryz.ntmps180;go_wp2_with fail;refine (zbK _ _ (by omega) (by omega)).mono ?_;rintro e w' ⟨rfl,rfl⟩;rw[hw];go_wp2_with fail;refine (zbY _ _).mono ?_;rintro e w' ⟨rfl,rfl⟩;go_wp2_with fail
 all_goals go_ret2
 all_goals exact ⟨rfl,zcH _⟩
theorem zmV (s:ByteArray) (i:Nat) (w:World) (hs:s.size<=1000000000) (b:Int) (b1:Int) (hi:i+1<s.size) (hb:zaC s i=b) (hb1:zaC s (i+1)=b1) (k0:224<=b) (k1:b<=239) (k2:i+3<=s.size) (k3:b1<zbJ b) :
  Calls Tryz.prog 180 #[.string s,.int .i64 i] w fun e w'=>e=.returned (.tuple #[.int .i64 (65533),.int .i64 1])/\∃ n,w'=w.drewN n:=by
 have i0:=za3 (P:=Tryz.prog) (t:=9) Tryz.underlying9 s i (by omega) i rfl;rw[hb] at i0;have i1:=za3 (P:=Tryz.prog) (t:=9) Tryz.underlying9 s (i+1) (by omega) (i+1) (by omega);rw[hb1] at i1;have hbl:=zaM s i;have hbh:=zaL s i;rw[hb] at hbl hbh;have hbl1:=zaM s (i+1);have hbh1:=zaL s (i+1);rw[hb1] at hbl1 hbh1;clear hb hb1;have hw:za2 b=3:=(by unfold za2;omega);have HL:zbJ b<=160:=(by unfold zbJ;omega);have HL':128<=zbJ b:=(by unfold zbJ;omega);have HH:143<=zaZ b:=(by unfold zaZ;omega);have HH':zaZ b<=191:=(by unfold zaZ;omega);go_enter Tryz.func180,Tryz.ntmps180;go_wp2_with fail;refine (zbK _ _ (by omega) (by omega)).mono ?_;rintro e w' ⟨rfl,rfl⟩;rw[hw];go_wp2_with fail;refine (zbY _ _).mono ?_;rintro e w' ⟨rfl,rfl⟩;go_wp2_with fail
 all_goals go_ret2
 all_goals exact ⟨rfl,zcH _⟩
theorem zmW (s:ByteArray) (i:Nat) (w:World) (hs:s.size<=1000000000) (b:Int) (b1:Int) (hi:i+1<s.size) (hb:zaC s i=b) (hb1:zaC s (i+1)=b1) (k0:224<=b) (k1:b<=239) (k2:i+3<=s.size) (k3:zaZ b<b1) :
  Calls Tryz.prog 180 #[.string s,.int .i64 i] w fun e w'=>e=.returned (.tuple #[.int .i64 (65533),.int .i64 1])/\∃ n,w'=w.drewN n:=by
 have i0:=za3 (P:=Tryz.prog) (t:=9) Tryz.underlying9 s i (by omega) i rfl;rw[hb] at i0;have i1:=za3 (P:=Tryz.prog) (t:=9) Tryz.underlying9 s (i+1) (by omega) (i+1) (by omega);rw[hb1] at i1;have hbl:=zaM s i;have hbh:=zaL s i;rw[hb] at hbl hbh;have hbl1:=zaM s (i+1);have hbh1:=zaL s (i+1);rw[hb1] at hbl1 hbh1;clear hb hb1;have hw:za2 b=3:=(by unfold za2;omega);have HL:zbJ b<=160:=(by unfold zbJ;omega);have HL':128<=zbJ b:=(by unfold zbJ;omega);have HH:143<=zaZ b:=(by unfold zaZ;omega);have HH':zaZ b<=191:=(by unfold zaZ;omega);go_enter Tryz.func180,Tryz.ntmps180;go_wp2_with fail;refine (zbK _ _ (by omega) (by omega)).mono ?_;rintro e w' ⟨rfl,rfl⟩;rw[hw];go_wp2_with fail;refine (zbY _ _).mono ?_;rintro e w' ⟨rfl,rfl⟩;go_wp2_with fail
 all_goals go_ret2
 all_goals exact ⟨rfl,zcH _⟩
theorem zmX (s:ByteArray) (i:Nat) (w:World) (hs:s.size<=1000000000) (b:Int) (b1:Int) (hi:i+1<s.size) (hb:zaC s i=b) (hb1:zaC s (i+1)=b1) (k0:240<=b) (k1:b<=244) (k2:i+4<=s.size) (k3:b1<zbJ b) :
  Calls Tryz.prog 180 #[.string s,.int .i64 i] w fun e w'=>e=.returned (.tuple #[.int .i64 (65533),.int .i64 1])/\∃ n,w'=w.drewN n:=by
 have i0:=za3 (P:=Tryz.prog) (t:=9) Tryz.underlying9 s i (by omega) i rfl;rw[hb] at i0;have i1:=za3 (P:=Tryz.prog) (t:=9) Tryz.underlying9 s (i+1) (by omega) (i+1) (by omega);rw[hb1] at i1;have hbl:=zaM s i;have hbh:=zaL s i;rw[hb] at hbl hbh;have hbl1:=zaM s (i+1);have hbh1:=zaL s (i+1);rw[hb1] at hbl1 hbh1;clear hb hb1;have hw:za2 b=4:=(by unfold za2;omega);have HL:zbJ b<=160:=(by unfold zbJ;omega);have HL':128<=zbJ b:=(by unfold zbJ;omega);have HH:143<=zaZ b:=(by unfold zaZ;omega);have HH':zaZ b<=191:=(by unfold zaZ;omega);go_enter Tryz.func180,Tryz.ntmps180;go_wp2_with fail;refine (zbK _ _ (by omega) (by omega)).mono ?_;rintro e w' ⟨rfl,rfl⟩;rw[hw];go_wp2_with fail;refine (zbY _ _).mono ?_;rintro e w' ⟨rfl,rfl⟩;go_wp2_with fail
 all_goals go_ret2
 all_goals exact ⟨rfl,zcH _⟩
theorem zmY (s:ByteArray) (i:Nat) (w:World) (hs:s.size<=1000000000) (b:Int) (b1:Int) (hi:i+1<s.size) (hb:zaC s i=b) (hb1:zaC s (i+1)=b1) (k0:240<=b) (k1:b<=244) (k2:i+4<=s.size) (k3:zaZ b<b1) :
  Calls Tryz.prog 180 #[.string s,.int .i64 i] w fun e w'=>e=.returned (.tuple #[.int .i64 (65533),.int .i64 1])/\∃ n,w'=w.drewN n:=by
 have i0:=za3 (P:=Tryz.prog) (t:=9) Tryz.underlying9 s i (by omega) i rfl;rw[hb] at i0;have i1:=za3 (P:=Tryz.prog) (t:=9) Tryz.underlying9 s (i+1) (by omega) (i+1) (by omega);rw[hb1] at i1;have hbl:=zaM s i;have hbh:=zaL s i;rw[hb] at hbl hbh;have hbl1:=zaM s (i+1);have hbh1:=zaL s (i+1);rw[hb1] at hbl1 hbh1;clear hb hb1;have hw:za2 b=4:=(by unfold za2;omega);have HL:zbJ b<=160:=(by unfold zbJ;omega);have HL':128<=zbJ b:=(by unfold zbJ;omega);have HH:143<=zaZ b:=(by unfold zaZ;omega);have HH':zaZ b<=191:=(by unfold zaZ;omega);go_enter Tryz.func180,Tryz.ntmps180;go_wp2_with fail;refine (zbK _ _ (by omega) (by omega)).mono ?_;rintro e w' ⟨rfl,rfl⟩;rw[hw];go_wp2_with fail;refine (zbY _ _).mono ?_;rintro e w' ⟨rfl,rfl⟩;go_wp2_with fail
 all_goals go_ret2
 all_goals exact ⟨rfl,zcH _⟩
theorem zuX (s:ByteArray) (i:Nat) (w:World) (hs:s.size<=1000000000) (b:Int) (b1:Int) (hi:i+1<s.size) (hb:zaC s i=b) (hb1:zaC s (i+1)=b1) (k0:194<=b) (k1:b<=223) (k2:zbJ b<=b1) (k3:b1<=zaZ b) :
  Calls Tryz.prog 180 #[.string s,.int .i64 i] w fun e w'=>e=.returned (.tuple #[.int .i64 ((b - 192) * 64+(b1 - 128)),.int .i64 2])/\∃ n,w'=w.drewN n:=by
 have i0:=za3 (P:=Tryz.prog) (t:=9) Tryz.underlying9 s i (by omega) i rfl;rw[hb] at i0;have i1:=za3 (P:=Tryz.prog) (t:=9) Tryz.underlying9 s (i+1) (by omega) (i+1) (by omega);rw[hb1] at i1;have hbl:=zaM s i;have hbh:=zaL s i;rw[hb] at hbl hbh;have hbl1:=zaM s (i+1);have hbh1:=zaL s (i+1);rw[hb1] at hbl1 hbh1;clear hb hb1;have hw:za2 b=2:=(by unfold za2;omega);have HL':128<=zbJ b:=(by unfold zbJ;omega);have HH':zaZ b<=191:=(by unfold zaZ;omega);have hm:bits .and .i64 b 31=b - 192:=(by rw[show (31:Int)=2 ^ 5 - 1 from by decide,zgQ 5 (by decide) b hbl hbh];omega);have ho1:bits .or .i64 ((b - 192) * 64) (b1 % 64)=(b - 192) * 64+(b1 - 128):=(by rw[zcP _ _ (by omega) (by omega) (by omega) (by omega) (by omega)];omega);go_enter Tryz.func180,Tryz.ntmps180;go_wp2_with fail;refine (zbK _ _ (by omega) (by omega)).mono ?_;rintro e w' ⟨rfl,rfl⟩;rw[hw];go_wp2_with fail;refine (zbY _ _).mono ?_;rintro e w' ⟨rfl,rfl⟩;go_wp2_with fail
 go_quiet (fail)
 go_wp2_with fail;refine wp_loop_rounds 2 ?_;rw[rounds_succ];go_wp2_with fail;rw[rounds_succ];go_wp2_with fail
 all_goals go_ret2
 all_goals exact ⟨rfl,zeZ _ _⟩
theorem zuY (s:ByteArray) (i:Nat) (w:World) (hs:s.size<=1000000000) (b:Int) (b1:Int) (b2:Int) (hi:i+2<s.size) (hb:zaC s i=b) (hb1:zaC s (i+1)=b1) (hb2:zaC s (i+2)=b2) (k0:224<=b) (k1:b<=239) (k2:zbJ b<=b1) (k3:b1<=zaZ b) (k4:128<=b2) (k5:b2<=191) :
  Calls Tryz.prog 180 #[.string s,.int .i64 i] w fun e w'=>e=.returned (.tuple #[.int .i64 (((b - 224) * 64+(b1 - 128)) * 64+(b2 - 128)),.int .i64 3])/\∃ n,w'=w.drewN n:=by
 have i0:=za3 (P:=Tryz.prog) (t:=9) Tryz.underlying9 s i (by omega) i rfl;rw[hb] at i0;have i1:=za3 (P:=Tryz.prog) (t:=9) Tryz.underlying9 s (i+1) (by omega) (i+1) (by omega);rw[hb1] at i1;have i2:=za3 (P:=Tryz.prog) (t:=9) Tryz.underlying9 s (i+2) (by omega) (i+2) (by omega);rw[hb2] at i2;have j2:=za3 (P:=Tryz.prog) (t:=9) Tryz.underlying9 s (i+2) (by omega) (i+1+1) (by omega);rw[hb2] at j2;have hbl:=zaM s i;have hbh:=zaL s i;rw[hb] at hbl hbh;have hbl1:=zaM s (i+1);have hbh1:=zaL s (i+1);rw[hb1] at hbl1 hbh1;have hbl2:=zaM s (i+2);have hbh2:=zaL s (i+2);rw[hb2] at hbl2 hbh2;clear hb hb1 hb2;have hw:za2 b=3:=(by unfold za2;omega);have HL':128<=zbJ b:=(by unfold zbJ;omega);have HH':zaZ b<=191:=(by unfold zaZ;omega);have hm:bits .and .i64 b 15=b - 224:=(by rw[show (15:Int)=2 ^ 4 - 1 from by decide,zgQ 4 (by decide) b hbl hbh];omega);have ho1:bits .or .i64 ((b - 224) * 64) (b1 % 64)=(b - 224) * 64+(b1 - 128):=(by rw[zcP _ _ (by omega) (by omega) (by omega) (by omega) (by omega)];omega);have ho2:bits .or .i64 (((b - 224) * 64+(b1 - 128)) * 64) (b2 % 64)=((b - 224) * 64+(b1 - 128)) * 64+(b2 - 128):=(by rw[zcP _ _ (by omega) (by omega) (by omega) (by omega) (by omega)];omega);go_enter Tryz.func180,Tryz.ntmps180;go_wp2_with fail;refine (zbK _ _ (by omega) (by omega)).mono ?_;rintro e w' ⟨rfl,rfl⟩;rw[hw];go_wp2_with fail;refine (zbY _ _).mono ?_;rintro e w' ⟨rfl,rfl⟩;go_wp2_with fail
 go_quiet (fail)
 go_wp2_with fail;refine wp_loop_rounds 3 ?_;rw[rounds_succ];go_wp2_with fail;rw[rounds_succ];go_wp2_with fail;rw[rounds_succ];go_wp2_with fail
 all_goals go_ret2
 all_goals exact ⟨rfl,zeZ _ _⟩
theorem zuZ (s:ByteArray) (i:Nat) (w:World) (hs:s.size<=1000000000) (b:Int) (b1:Int) (b2:Int) (b3:Int) (hi:i+3<s.size) (hb:zaC s i=b) (hb1:zaC s (i+1)=b1) (hb2:zaC s (i+2)=b2) (hb3:zaC s (i+3)=b3) (k0:240<=b) (k1:b<=244) (k2:zbJ b<=b1) (k3:b1<=zaZ b) (k4:128<=b2) (k5:b2<=191) (k6:128<=b3) (k7:b3<=191) :
  Calls Tryz.prog 180 #[.string s,.int .i64 i] w fun e w'=>e=.returned (.tuple #[.int .i64 ((((b - 240) * 64+(b1 - 128)) * 64+(b2 - 128)) * 64+(b3 - 128)),.int .i64 4])/\∃ n,w'=w.drewN n:=by
 have i0:=za3 (P:=Tryz.prog) (t:=9) Tryz.underlying9 s i (by omega) i rfl;rw[hb] at i0;have i1:=za3 (P:=Tryz.prog) (t:=9) Tryz.underlying9 s (i+1) (by omega) (i+1) (by omega);rw[hb1] at i1;have i2:=za3 (P:=Tryz.prog) (t:=9) Tryz.underlying9 s (i+2) (by omega) (i+2) (by omega);rw[hb2] at i2;have j2:=za3 (P:=Tryz.prog) (t:=9) Tryz.underlying9 s (i+2) (by omega) (i+1+1) (by omega);rw[hb2] at j2;have i3:=za3 (P:=Tryz.prog) (t:=9) Tryz.underlying9 s (i+3) (by omega) (i+3) (by omega);rw[hb3] at i3;have j3:=za3 (P:=Tryz.prog) (t:=9) Tryz.underlying9 s (i+3) (by omega) (i+1+2) (by omega);rw[hb3] at j3;have hbl:=zaM s i;have hbh:=zaL s i;rw[hb] at hbl hbh;have hbl1:=zaM s (i+1);have hbh1:=zaL s (i+1);rw[hb1] at hbl1 hbh1;have hbl2:=zaM s (i+2);have hbh2:=zaL s (i+2);rw[hb2] at hbl2 hbh2;have hbl3:=zaM s (i+3);have hbh3:=zaL s (i+3);rw[hb3] at hbl3 hbh3;clear hb hb1 hb2 hb3;have hw:za2 b=4:=(by unfold za2;omega);have HL':128<=zbJ b:=(by unfold zbJ;omega);have HH':zaZ b<=191:=(by unfold zaZ;omega);have hm:bits .and .i64 b 7=b - 240:=(by rw[show (7:Int)=2 ^ 3 - 1 from by decide,zgQ 3 (by decide) b hbl hbh];omega);have ho1:bits .or .i64 ((b - 240) * 64) (b1 % 64)=(b - 240) * 64+(b1 - 128):=(by rw[zcP _ _ (by omega) (by omega) (by omega) (by omega) (by omega)];omega);have ho2:bits .or .i64 (((b - 240) * 64+(b1 - 128)) * 64) (b2 % 64)=((b - 240) * 64+(b1 - 128)) * 64+(b2 - 128):=(by rw[zcP _ _ (by omega) (by omega) (by omega) (by omega) (by omega)];omega);have ho3:bits .or .i64 ((((b - 240) * 64+(b1 - 128)) * 64+(b2 - 128)) * 64) (b3 % 64)=(((b - 240) * 64+(b1 - 128)) * 64+(b2 - 128)) * 64+(b3 - 128):=(by rw[zcP _ _ (by omega) (by omega) (by omega) (by omega) (by omega)];omega);go_enter Tryz.func180,Tryz.ntmps180;go_wp2_with fail;refine (zbK _ _ (by omega) (by omega)).mono ?_;rintro e w' ⟨rfl,rfl⟩;rw[hw];go_wp2_with fail;refine (zbY _ _).mono ?_;rintro e w' ⟨rfl,rfl⟩;go_wp2_with fail
 go_quiet (fail)
 go_wp2_with fail;refine wp_loop_rounds 4 ?_;rw[rounds_succ];go_wp2_with fail;rw[rounds_succ];go_wp2_with fail;rw[rounds_succ];go_wp2_with fail;rw[rounds_succ];go_wp2_with fail
 all_goals go_ret2
 all_goals exact ⟨rfl,zeZ _ _⟩
theorem zsI (s:ByteArray) (i:Nat) (w:World) (hs:s.size<=1000000000) (b:Int) (b1:Int) (b2:Int) (hi:i+2<s.size) (hb:zaC s i=b) (hb1:zaC s (i+1)=b1) (hb2:zaC s (i+2)=b2) (k0:224<=b) (k1:b<=239) (k2:zbJ b<=b1) (k3:b1<=zaZ b) (k4:i+3<=s.size) (k5:b2<128\/191<b2) :
  Calls Tryz.prog 180 #[.string s,.int .i64 i] w fun e w'=>e=.returned (.tuple #[.int .i64 (65533),.int .i64 1])/\∃ n,w'=w.drewN n:=by
 have i0:=za3 (P:=Tryz.prog) (t:=9) Tryz.underlying9 s i (by omega) i rfl;rw[hb] at i0;have i1:=za3 (P:=Tryz.prog) (t:=9) Tryz.underlying9 s (i+1) (by omega) (i+1) (by omega);rw[hb1] at i1;have i2:=za3 (P:=Tryz.prog) (t:=9) Tryz.underlying9 s (i+2) (by omega) (i+2) (by omega);rw[hb2] at i2;have j2:=za3 (P:=Tryz.prog) (t:=9) Tryz.underlying9 s (i+2) (by omega) (i+1+1) (by omega);rw[hb2] at j2;have hbl:=zaM s i;have hbh:=zaL s i;rw[hb] at hbl hbh;have hbl1:=zaM s (i+1);have hbh1:=zaL s (i+1);rw[hb1] at hbl1 hbh1;have hbl2:=zaM s (i+2);have hbh2:=zaL s (i+2);rw[hb2] at hbl2 hbh2;clear hb hb1 hb2;have hw:za2 b=3:=(by unfold za2;omega);have HL':128<=zbJ b:=(by unfold zbJ;omega);have HH':zaZ b<=191:=(by unfold zaZ;omega);have hm:bits .and .i64 b 15=b - 224:=(by rw[show (15:Int)=2 ^ 4 - 1 from by decide,zgQ 4 (by decide) b hbl hbh];omega);have ho1:bits .or .i64 ((b - 224) * 64) (b1 % 64)=(b - 224) * 64+(b1 - 128):=(by rw[zcP _ _ (by omega) (by omega) (by omega) (by omega) (by omega)];omega);go_enter Tryz.func180,Tryz.ntmps180;go_wp2_with fail;refine (zbK _ _ (by omega) (by omega)).mono ?_;rintro e w' ⟨rfl,rfl⟩;rw[hw];go_wp2_with fail;refine (zbY _ _).mono ?_;rintro e w' ⟨rfl,rfl⟩;go_wp2_with fail
 go_quiet (fail)
 go_wp2_with fail;refine wp_loop_rounds 2 ?_;rw[rounds_succ];go_wp2_with fail;rw[rounds_succ];go_wp2_with fail
 all_goals go_ret2
 all_goals exact ⟨rfl,zeZ _ _⟩
theorem zsJ (s:ByteArray) (i:Nat) (w:World) (hs:s.size<=1000000000) (b:Int) (b1:Int) (b2:Int) (hi:i+2<s.size) (hb:zaC s i=b) (hb1:zaC s (i+1)=b1) (hb2:zaC s (i+2)=b2) (k0:240<=b) (k1:b<=244) (k2:zbJ b<=b1) (k3:b1<=zaZ b) (k4:i+4<=s.size) (k5:b2<128\/191<b2) :
  Calls Tryz.prog 180 #[.string s,.int .i64 i] w fun e w'=>e=.returned (.tuple #[.int .i64 (65533),.int .i64 1])/\∃ n,w'=w.drewN n:=by
 have i0:=za3 (P:=Tryz.prog) (t:=9) Tryz.underlying9 s i (by omega) i rfl;rw[hb] at i0;have i1:=za3 (P:=Tryz.prog) (t:=9) Tryz.underlying9 s (i+1) (by omega) (i+1) (by omega);rw[hb1] at i1;have i2:=za3 (P:=Tryz.prog) (t:=9) Tryz.underlying9 s (i+2) (by omega) (i+2) (by omega);rw[hb2] at i2;have j2:=za3 (P:=Tryz.prog) (t:=9) Tryz.underlying9 s (i+2) (by omega) (i+1+1) (by omega);rw[hb2] at j2;have hbl:=zaM s i;have hbh:=zaL s i;rw[hb] at hbl hbh;have hbl1:=zaM s (i+1);have hbh1:=zaL s (i+1);rw[hb1] at hbl1 hbh1;have hbl2:=zaM s (i+2);have hbh2:=zaL s (i+2);rw[hb2] at hbl2 hbh2;clear hb hb1 hb2;have hw:za2 b=4:=(by unfold za2;omega);have HL':128<=zbJ b:=(by unfold zbJ;omega);have HH':zaZ b<=191:=(by unfold zaZ;omega);have hm:bits .and .i64 b 7=b - 240:=(by rw[show (7:Int)=2 ^ 3 - 1 from by decide,zgQ 3 (by decide) b hbl hbh];omega);have ho1:bits .or .i64 ((b - 240) * 64) (b1 % 64)=(b - 240) * 64+(b1 - 128):=(by rw[zcP _ _ (by omega) (by omega) (by omega) (by omega) (by omega)];omega);go_enter Tryz.func180,Tryz.ntmps180;go_wp2_with fail;refine (zbK _ _ (by omega) (by omega)).mono ?_;rintro e w' ⟨rfl,rfl⟩;rw[hw];go_wp2_with fail;refine (zbY _ _).mono ?_;rintro e w' ⟨rfl,rfl⟩;go_wp2_with fail
 go_quiet (fail)
 go_wp2_with fail;refine wp_loop_rounds 2 ?_;rw[rounds_succ];go_wp2_with fail;rw[rounds_succ];go_wp2_with fail
 all_goals go_ret2
 all_goals exact ⟨rfl,zeZ _ _⟩
theorem zsK (s:ByteArray) (i:Nat) (w:World) (hs:s.size<=1000000000) (b:Int) (b1:Int) (b2:Int) (b3:Int) (hi:i+3<s.size) (hb:zaC s i=b) (hb1:zaC s (i+1)=b1) (hb2:zaC s (i+2)=b2) (hb3:zaC s (i+3)=b3) (k0:240<=b) (k1:b<=244) (k2:zbJ b<=b1) (k3:b1<=zaZ b) (k4:i+4<=s.size) (k5:128<=b2) (k6:b2<=191) (k7:b3<128\/191<b3) :
  Calls Tryz.prog 180 #[.string s,.int .i64 i] w fun e w'=>e=.returned (.tuple #[.int .i64 (65533),.int .i64 1])/\∃ n,w'=w.drewN n:=by
 have i0:=za3 (P:=Tryz.prog) (t:=9) Tryz.underlying9 s i (by omega) i rfl;rw[hb] at i0;have i1:=za3 (P:=Tryz.prog) (t:=9) Tryz.underlying9 s (i+1) (by omega) (i+1) (by omega);rw[hb1] at i1;have i2:=za3 (P:=Tryz.prog) (t:=9) Tryz.underlying9 s (i+2) (by omega) (i+2) (by omega);rw[hb2] at i2;have j2:=za3 (P:=Tryz.prog) (t:=9) Tryz.underlying9 s (i+2) (by omega) (i+1+1) (by omega);rw[hb2] at j2;have i3:=za3 (P:=Tryz.prog) (t:=9) Tryz.underlying9 s (i+3) (by omega) (i+3) (by omega);rw[hb3] at i3;have j3:=za3 (P:=Tryz.prog) (t:=9) Tryz.underlying9 s (i+3) (by omega) (i+1+2) (by omega);rw[hb3] at j3;have hbl:=zaM s i;have hbh:=zaL s i;rw[hb] at hbl hbh;have hbl1:=zaM s (i+1);have hbh1:=zaL s (i+1);rw[hb1] at hbl1 hbh1;have hbl2:=zaM s (i+2);have hbh2:=zaL s (i+2);rw[hb2] at hbl2 hbh2;have hbl3:=zaM s (i+3);have hbh3:=zaL s (i+3);rw[hb3] at hbl3 hbh3;clear hb hb1 hb2 hb3;have hw:za2 b=4:=(by unfold za2;omega);have HL':128<=zbJ b:=(by unfold zbJ;omega);have HH':zaZ b<=191:=(by unfold zaZ;omega);have hm:bits .and .i64 b 7=b - 240:=(by rw[show (7:Int)=2 ^ 3 - 1 from by decide,zgQ 3 (by decide) b hbl hbh];omega);have ho1:bits .or .i64 ((b - 240) * 64) (b1 % 64)=(b - 240) * 64+(b1 - 128):=(by rw[zcP _ _ (by omega) (by omega) (by omega) (by omega) (by omega)];omega);have ho2:bits .or .i64 (((b - 240) * 64+(b1 - 128)) * 64) (b2 % 64)=((b - 240) * 64+(b1 - 128)) * 64+(b2 - 128):=(by rw[zcP _ _ (by omega) (by omega) (by omega) (by omega) (by omega)];omega);go_enter Tryz.func180,Tryz.ntmps180;go_wp2_with fail;refine (zbK _ _ (by omega) (by omega)).mono ?_;rintro e w' ⟨rfl,rfl⟩;rw[hw];go_wp2_with fail;refine (zbY _ _).mono ?_;rintro e w' ⟨rfl,rfl⟩;go_wp2_with fail
 go_quiet (fail)
 go_wp2_with fail;refine wp_loop_rounds 3 ?_;rw[rounds_succ];go_wp2_with fail;rw[rounds_succ];go_wp2_with fail;rw[rounds_succ];go_wp2_with fail
 all_goals go_ret2
 all_goals exact ⟨rfl,zeZ _ _⟩
theorem zAY (s:ByteArray) (i:Nat) (w:World) (hs:s.size<=1000000000) (hi:i<s.size) :
  Calls Tryz.prog 180 #[.string s,.int .i64 i] w (NextPost s i w):=by
 have h0:=zaM s i;have h1:=zaL s i;obtain ⟨b,hb⟩:∃ b,zaC s i=b:=⟨_,rfl⟩;obtain ⟨b1,hb1⟩:∃ b,zaC s (i+1)=b:=⟨_,rfl⟩;obtain ⟨b2,hb2⟩:∃ b,zaC s (i+2)=b:=⟨_,rfl⟩;obtain ⟨b3,hb3⟩:∃ b,zaC s (i+3)=b:=⟨_,rfl⟩;rw[hb] at h0 h1;have mo:∀ (k:Nat) (x:Int) (l h:Int),zaC s (i+k)=x->(s.size<=i+k\/x<l\/h<x)->zaI s (i+k) l h = -1:=by
  intro k x l h e c;unfold zaI;rw[e,if_pos c]
 have my:∀ (k:Nat) (x:Int) (l h:Int),zaC s (i+k)=x->i+k<s.size->l<=x->x<=h->zaI s (i+k) l h=x - 128:=by
  intro k x l h e c c1 c2;unfold zaI;rw[e,if_neg (by omega)]
 by_cases k1:b<128
 ·refine (zuW s i w hs b hi hb k1).mono fun e w' ⟨he,hw⟩=>NextPost.mk ?_ he hw;unfold dec;rw[hb,if_pos k1]
 by_cases k2:b<194\/244<b
 ·refine (zAX s i w hs b hi hb (by omega) k2).mono fun e w' ⟨he,hw⟩=>NextPost.mk ?_ he hw;unfold dec;rw[hb,if_neg k1,if_neg (by omega),if_neg (by omega),if_neg (by omega)]
 by_cases c2:b<=223
 ·have hl:zbJ b=128:=(by unfold zbJ;omega);have hh:zaZ b=191:=(by unfold zaZ;omega);have hd:dec s i=if 0<=zaI s (i+1) 128 191 then ((b - 192) * 64+zaI s (i+1) 128 191,2) else (65533,1):=by
   unfold dec;rw[hb,if_neg k1,if_pos (by omega)]
  by_cases q:s.size<i+2
  ·refine (zsF s i w hs b hi hb (by omega) c2 q).mono fun e w' ⟨he,hw⟩=>NextPost.mk ?_ he hw;rw[hd,mo 1 b1 _ _ hb1 (by omega),if_neg (by omega)]
  by_cases q1:b1<128
  ·refine (zmT s i w hs b b1 (by omega) hb hb1 (by omega) c2 (by omega) (by rw[hl];exact q1)).mono fun e w' ⟨he,hw⟩=>NextPost.mk ?_ he hw;rw[hd,mo 1 b1 _ _ hb1 (by omega),if_neg (by omega)]
  by_cases q2:191<b1
  ·refine (zmU s i w hs b b1 (by omega) hb hb1 (by omega) c2 (by omega) (by rw[hh];exact q2)).mono fun e w' ⟨he,hw⟩=>NextPost.mk ?_ he hw;rw[hd,mo 1 b1 _ _ hb1 (by omega),if_neg (by omega)]
  ·refine (zuX s i w hs b b1 (by omega) hb hb1 (by omega) c2 (by rw[hl];omega) (by rw[hh];omega)).mono fun e w' ⟨he,hw⟩=>NextPost.mk ?_ he hw;rw[hd,my 1 b1 _ _ hb1 (by omega) (by omega) (by omega),if_pos (by omega)]
 by_cases c3:b<=239
 ·have hl:zbJ b=zfO b:=(by unfold zbJ zfO;omega);have hh:zaZ b=zc3 b:=(by unfold zaZ zc3;omega);have hd:dec s i=if zaI s (i+1) (zfO b) (zc3 b)<0\/zaI s (i+2) 128 191<0 then (65533,1) else ((b - 224) * 4096+zaI s (i+1) (zfO b) (zc3 b) * 64+zaI s (i+2) 128 191,3):=by
   unfold dec;rw[hb,if_neg k1,if_neg (by omega),if_pos (by omega)];unfold zhI;rw[hb]
  have hlo:128<=zfO b:=(by unfold zfO;omega);by_cases q:s.size<i+3
  ·refine (zsG s i w hs b hi hb (by omega) c3 q).mono fun e w' ⟨he,hw⟩=>NextPost.mk ?_ he hw;rw[hd,mo 2 b2 _ _ hb2 (by omega),if_pos (by omega)]
  by_cases q1:b1<zfO b
  ·refine (zmV s i w hs b b1 (by omega) hb hb1 (by omega) c3 (by omega) (by rw[hl];exact q1)).mono fun e w' ⟨he,hw⟩=>NextPost.mk ?_ he hw;rw[hd,mo 1 b1 _ _ hb1 (by omega),if_pos (by omega)]
  by_cases q2:zc3 b<b1
  ·refine (zmW s i w hs b b1 (by omega) hb hb1 (by omega) c3 (by omega) (by rw[hh];exact q2)).mono fun e w' ⟨he,hw⟩=>NextPost.mk ?_ he hw;rw[hd,mo 1 b1 _ _ hb1 (by omega),if_pos (by omega)]
  by_cases q3:b2<128\/191<b2
  ·refine (zsI s i w hs b b1 b2 (by omega) hb hb1 hb2 (by omega) c3 (by rw[hl];omega) (by rw[hh];omega) (by omega) q3).mono fun e w' ⟨he,hw⟩=>NextPost.mk ?_ he hw;rw[hd,mo 2 b2 _ _ hb2 (by omega),if_pos (by omega)]
  ·refine (zuY s i w hs b b1 b2 (by omega) hb hb1 hb2 (by omega) c3 (by rw[hl];omega) (by rw[hh];omega) (by omega) (by omega)).mono fun e w' ⟨he,hw⟩=>NextPost.mk ?_ he hw;rw[hd,my 1 b1 _ _ hb1 (by omega) (by omega) (by omega),my 2 b2 _ _ hb2 (by omega) (by omega) (by omega),if_neg (by omega)];exact zhZ (by omega) rfl
 ·have hl:zbJ b=zfI b:=(by unfold zbJ zfI;omega);have hh:zaZ b=zc4 b:=(by unfold zaZ zc4;omega);have hd:dec s i=if zaI s (i+1) (zfI b) (zc4 b)<0\/zaI s (i+2) 128 191<0\/zaI s (i+3) 128 191<0 then (65533,1) else ((b - 240) * 262144+zaI s (i+1) (zfI b) (zc4 b) * 4096+zaI s (i+2) 128 191 * 64+zaI s (i+3) 128 191,4):=by
   unfold dec;rw[hb,if_neg k1,if_neg (by omega),if_neg (by omega),if_pos (by omega)];unfold zsC;rw[hb]
  have hlo:128<=zfI b:=(by unfold zfI;omega);by_cases q:s.size<i+4
  ·refine (zsH s i w hs b hi hb (by omega) (by omega) q).mono fun e w' ⟨he,hw⟩=>NextPost.mk ?_ he hw;rw[hd,mo 3 b3 _ _ hb3 (by omega),if_pos (by omega)]
  by_cases q1:b1<zfI b
  ·refine (zmX s i w hs b b1 (by omega) hb hb1 (by omega) (by omega) (by omega) (by rw[hl];exact q1)).mono fun e w' ⟨he,hw⟩=>NextPost.mk ?_ he hw;rw[hd,mo 1 b1 _ _ hb1 (by omega),if_pos (by omega)]
  by_cases q2:zc4 b<b1
  ·refine (zmY s i w hs b b1 (by omega) hb hb1 (by omega) (by omega) (by omega) (by rw[hh];exact q2)).mono fun e w' ⟨he,hw⟩=>NextPost.mk ?_ he hw;rw[hd,mo 1 b1 _ _ hb1 (by omega),if_pos (by omega)]
  by_cases q3:b2<128\/191<b2
  ·refine (zsJ s i w hs b b1 b2 (by omega) hb hb1 hb2 (by omega) (by omega) (by rw[hl];omega) (by rw[hh];omega) (by omega) q3).mono fun e w' ⟨he,hw⟩=>NextPost.mk ?_ he hw;rw[hd,mo 2 b2 _ _ hb2 (by omega),if_pos (by omega)]
  by_cases q4:b3<128\/191<b3
  ·refine (zsK s i w hs b b1 b2 b3 (by omega) hb hb1 hb2 hb3 (by omega) (by omega) (by rw[hl];omega) (by rw[hh];omega) (by omega) (by omega) (by omega) q4).mono fun e w' ⟨he,hw⟩=>NextPost.mk ?_ he hw;rw[hd,mo 3 b3 _ _ hb3 (by omega),if_pos (by omega)]
  ·refine (zuZ s i w hs b b1 b2 b3 (by omega) hb hb1 hb2 hb3 (by omega) (by omega) (by rw[hl];omega) (by rw[hh];omega) (by omega) (by omega) (by omega) (by omega)).mono fun e w' ⟨he,hw⟩=>NextPost.mk ?_ he hw;rw[hd,my 1 b1 _ _ hb1 (by omega) (by omega) (by omega),my 2 b2 _ _ hb2 (by omega) (by omega) (by omega),my 3 b3 _ _ hb3 (by omega) (by omega) (by omega),if_neg (by omega)];exact zhZ (by omega) rfl
def zeH (c:Int):Bool:=decide (c=10\/32<=c/\c≠127)
theorem zu0 (c:Int) (w:World) :
  Calls Tryz.prog 154 #[.int .i64 c] w fun e w'=>e=.returned (.bool (zeH c))/\w=w':=by
 go_enter Tryz.func154,Tryz.ntmps154
 go_wp2
 all_goals go_ret
 all_goals exact ⟨zaO (by unfold zeH;rw[Bool.eq_iff_iff];simp;omega),rfl⟩
theorem zfP (s:ByteArray) (i:Nat) (low high:Int) (w:World) (j:Int) (hj:j=i) (hs:s.size<=1000000000) (hi:i<=1000000010) :
  Calls Tryz.prog 242 #[.string s,.int .i64 j,.int .i64 low,.int .i64 high] w fun e w'=>e=.returned (.int .i64 (zaI s i low high))/\w=w':=by
 subst hj;by_cases h:i<s.size
 ·have i0:=za3 (P:=Tryz.prog) (t:=9) Tryz.underlying9 s i h i rfl;have h0:=zaM s i;have h1:=zaL s i;have HM:Hid (zaI s i low high=if zaC s i<low\/high<zaC s i then -1 else zaC s i - 128):=by
   show _=_;unfold zaI;by_cases q:zaC s i<low\/high<zaC s i
   ·rw[if_pos (.inr q),if_pos q]
   ·rw[if_neg (by omega),if_neg q]
  generalize zaC s i=b at *;go_enter Tryz.func242,Tryz.ntmps242
  go_wp2
  all_goals go_ret
  all_goals exact ⟨zaK (by rw[HM.out];first|rw[if_pos (by omega)]|rw[if_neg (by omega)]),rfl⟩
 ·have HM:Hid (zaI s i low high = -1):=by
   show _=_;unfold zaI;rw[if_pos (.inl (by omega))]
  go_enter Tryz.func242,Tryz.ntmps242
  go_wp2
  all_goals go_ret
  all_goals exact ⟨zaK HM.out.symm,rfl⟩
theorem zxI (s:ByteArray) (i:Nat) (w:World) (hs:s.size<=1000000000) (hi:i<s.size) :
  Calls Tryz.prog 243 #[.string s,.int .i64 i] w fun e w'=>e=.returned (.agg #[.int .i64 (zhI s i).1,.int .i64 (zhI s i).2])/\Kept w w':=by
 have i0:=za3 (P:=Tryz.prog) (t:=9) Tryz.underlying9 s i hi i rfl;have h0:=zaM s i;have h1:=zaL s i;have ht:zhI s i=if zaI s (i+1) (zfO (zaC s i)) (zc3 (zaC s i))<0\/zaI s (i+2) 128 191<0 then (65533,1)
   else ((zaC s i - 224) * 4096+zaI s (i+1) (zfO (zaC s i)) (zc3 (zaC s i)) * 64+zaI s (i+2) 128 191,3):=rfl
 have hb1:zaI s (i+1) (zfO (zaC s i)) (zc3 (zaC s i))<=63:=by
  have:=zaL s (i+1);unfold zaI zc3;split <;> omega
 have hb2:zaI s (i+2) 128 191<=63:=(by unfold zaI;split <;> omega);have hc:((zaC s i == 224)=true/\(zaC s i == 237)=false/\zfO (zaC s i)=160/\zc3 (zaC s i)=191) \/
   ((zaC s i == 224)=false/\(zaC s i == 237)=true/\zfO (zaC s i)=128/\zc3 (zaC s i)=159) \/
   ((zaC s i == 224)=false/\(zaC s i == 237)=false/\zfO (zaC s i)=128/\zc3 (zaC s i)=191):=by
  unfold zfO zc3;simp only[beq_iff_eq,beq_eq_false_iff_ne,ne_eq];omega
 generalize zaC s i=b at *;rcases hc with ⟨e1,e2,l1,l2⟩|⟨e1,e2,l1,l2⟩|⟨e1,e2,l1,l2⟩
 all_goals
  rw[l1,l2] at ht hb1;have HT:=Hd ht;clear ht l1 l2;go_enter Tryz.func243,Tryz.ntmps243;go_wp2_with (first|(go_at_call 242;refine (zfP _ (i+1) _ _ _ _ (by omega) (by omega) (by omega)).mono ?_;rintro e w' ⟨rfl,rfl⟩)|(go_at_call 242;refine (zfP _ (i+2) _ _ _ _ (by omega) (by omega) (by omega)).mono ?_;rintro e w' ⟨rfl,rfl⟩))
  all_goals first
   | (have q:=HT.out;rw[if_pos (by omega)] at q;rw[q];exact bodyPost_ret (v:=.agg #[.int .i64 65533,.int .i64 1]) (by simp [results,Tryz.results243,go_sem]) rfl ⟨rfl,zaA _ _⟩)
   | (have q:=HT.out;rw[if_neg (by omega)] at q;rw[q];exact bodyPost_ret (v:=.agg #[.int .i64 _,.int .i64 3]) (by simp [results,Tryz.results243,go_sem]) rfl ⟨rfl,zaA _ _⟩)
theorem zAZ (s:ByteArray) (i:Nat) (w:World) (hs:s.size<=1000000000) (hi:i<s.size) :
  Calls Tryz.prog 244 #[.string s,.int .i64 i] w fun e w'=>e=.returned (.agg #[.int .i64 (zsC s i).1,.int .i64 (zsC s i).2])/\Kept w w':=by
 have i0:=za3 (P:=Tryz.prog) (t:=9) Tryz.underlying9 s i hi i rfl;have h0:=zaM s i;have h1:=zaL s i;have ht:zsC s i=if zaI s (i+1) (zfI (zaC s i)) (zc4 (zaC s i))<0\/zaI s (i+2) 128 191<0\/zaI s (i+3) 128 191<0 then (65533,1)
   else ((zaC s i - 240) * 262144+zaI s (i+1) (zfI (zaC s i)) (zc4 (zaC s i)) * 4096+zaI s (i+2) 128 191 * 64+zaI s (i+3) 128 191,4):=rfl
 have hb1:zaI s (i+1) (zfI (zaC s i)) (zc4 (zaC s i))<=63:=by
  have:=zaL s (i+1);unfold zaI zc4;split <;> omega
 have hb2:zaI s (i+2) 128 191<=63:=(by unfold zaI;split <;> omega);have hb3:zaI s (i+3) 128 191<=63:=(by unfold zaI;split <;> omega);have hc:((zaC s i == 240)=true/\(zaC s i == 244)=false/\zfI (zaC s i)=144/\zc4 (zaC s i)=191) \/
   ((zaC s i == 240)=false/\(zaC s i == 244)=true/\zfI (zaC s i)=128/\zc4 (zaC s i)=143) \/
   ((zaC s i == 240)=false/\(zaC s i == 244)=false/\zfI (zaC s i)=128/\zc4 (zaC s i)=191):=by
  unfold zfI zc4;simp only[beq_iff_eq,beq_eq_false_iff_ne,ne_eq];omega
 generalize zaC s i=b at *;rcases hc with ⟨e1,e2,l1,l2⟩|⟨e1,e2,l1,l2⟩|⟨e1,e2,l1,l2⟩
 all_goals
  rw[l1,l2] at ht hb1;have HT:=Hd ht;clear ht l1 l2;go_enter Tryz.func244,Tryz.ntmps244;go_wp2_with (first|(go_at_call 242;refine (zfP _ (i+1) _ _ _ _ (by omega) (by omega) (by omega)).mono ?_;rintro e w' ⟨rfl,rfl⟩)|(go_at_call 242;refine (zfP _ (i+2) _ _ _ _ (by omega) (by omega) (by omega)).mono ?_;rintro e w' ⟨rfl,rfl⟩)|(go_at_call 242;refine (zfP _ (i+3) _ _ _ _ (by omega) (by omega) (by omega)).mono ?_;rintro e w' ⟨rfl,rfl⟩))
  all_goals first
   | (have q:=HT.out;rw[if_pos (by omega)] at q;rw[q];exact bodyPost_ret (v:=.agg #[.int .i64 65533,.int .i64 1]) (by simp [results,Tryz.results244,go_sem]) rfl ⟨rfl,zaA _ _⟩)
   | (have q:=HT.out;rw[if_neg (by omega)] at q;rw[q];exact bodyPost_ret (v:=.agg #[.int .i64 _,.int .i64 4]) (by simp [results,Tryz.results244,go_sem]) rfl ⟨rfl,zaA _ _⟩)
theorem zbC {W w1:World} (hb:Kept W w1):(∀ b o,b<W.heap.size->w1.cell? ⟨b,o,none⟩=W.cell? ⟨b,o,none⟩)/\(∀ b o,b<W.heap.size->w1.frozen? ⟨b,o,none⟩=W.frozen? ⟨b,o,none⟩) :=
 ⟨fun b o h=>hb.cell (p:=⟨b,o,none⟩) h,fun b o h=>hb.frozen (p:=⟨b,o,none⟩) h⟩
theorem zEp (s:ByteArray) (i:Nat) (w:World) (hs:s.size<=1000000000) (hi:i<s.size) :
  Calls Tryz.prog 203 #[.string s,.int .i64 i] w fun e w'=>e=.returned (.agg #[.int .i64 (dec s i).1,.int .i64 (dec s i).2])/\Kept w w':=by
 have i0:=za3 (P:=Tryz.prog) (t:=9) Tryz.underlying9 s i hi i rfl;have h0:=zaM s i;have h1:=zaL s i;have HD:Hid (dec s i=if zaC s i<128 then (zaC s i,1)
  else if 194<=zaC s i/\zaC s i<=223 then
   if 0<=zaI s (i+1) 128 191 then ((zaC s i - 192) * 64+zaI s (i+1) 128 191,2) else (65533,1)
  else if 224<=zaC s i/\zaC s i<=239 then zhI s i
  else if 240<=zaC s i/\zaC s i<=244 then zsC s i
  else (65533,1)):=rfl
 have hb1:zaI s (i+1) 128 191<=63:=(by unfold zaI;split <;> omega);generalize zaC s i=b at *;by_cases c1:b<128
 ·have q:=HD.out;rw[if_pos c1] at q;rw[q];clear q HD;go_enter Tryz.func203,Tryz.ntmps203;go_wp2_with fail;exact bodyPost_ret (v:=.agg #[.int .i64 _,.int .i64 _]) (by simp [results,Tryz.results203,go_sem]) rfl ⟨rfl,zaA _ _⟩
 by_cases c2:194<=b/\b<=223
 ·have q:=HD.out;rw[if_neg c1,if_pos c2] at q;rw[q];clear q HD;by_cases c3:0<=zaI s (i+1) 128 191
  ·rw[if_pos c3];go_enter Tryz.func203,Tryz.ntmps203;go_wp2_with (go_at_call 242;refine (zfP _ (i+1) _ _ _ _ (by omega) (by omega) (by omega)).mono ?_;rintro e w' ⟨rfl,rfl⟩);exact bodyPost_ret (v:=.agg #[.int .i64 _,.int .i64 _]) (by simp [results,Tryz.results203,go_sem]) rfl ⟨rfl,zaA _ _⟩
  ·rw[if_neg c3];go_enter Tryz.func203,Tryz.ntmps203;go_wp2_with (go_at_call 242;refine (zfP _ (i+1) _ _ _ _ (by omega) (by omega) (by omega)).mono ?_;rintro e w' ⟨rfl,rfl⟩);exact bodyPost_ret (v:=.agg #[.int .i64 _,.int .i64 _]) (by simp [results,Tryz.results203,go_sem]) rfl ⟨rfl,zaA _ _⟩
 by_cases c3:224<=b/\b<=239
 ·have q:=HD.out;rw[if_neg c1,if_neg c2,if_pos c3] at q;rw[q];clear q HD;go_enter Tryz.func203,Tryz.ntmps203;go_wp2_with fail;refine (zxI _ _ _ (by omega) (by omega)).mono ?_;rintro e w1 ⟨rfl,hk⟩;obtain ⟨kc,kf⟩:=zbC hk;have hz:w.heap.size<w1.heap.size:=(by have:=hk.size;simp at this;omega);have Hk:=Hd hk;clear hk;go_wp2_with fail;refine bodyPost_ret (v:=.agg #[.int .i64 (zhI s i).1,.int .i64 (zhI s i).2]) (by simp [results,Tryz.results203,go_sem,hz,kc,kf]) rfl ⟨rfl,?_⟩;exact Below.setCell (Below.setCell ((zaA w _).trans Hk.out) (Nat.le_refl _) _) (Nat.le_refl _) _
 by_cases c4:240<=b/\b<=244
 ·have q:=HD.out;rw[if_neg c1,if_neg c2,if_neg c3,if_pos c4] at q;rw[q];clear q HD;go_enter Tryz.func203,Tryz.ntmps203;go_wp2_with fail;refine (zAZ _ _ _ (by omega) (by omega)).mono ?_;rintro e w1 ⟨rfl,hk⟩;obtain ⟨kc,kf⟩:=zbC hk;have hz:w.heap.size<w1.heap.size:=(by have:=hk.size;simp at this;omega);have Hk:=Hd hk;clear hk;go_wp2_with fail;refine bodyPost_ret (v:=.agg #[.int .i64 (zsC s i).1,.int .i64 (zsC s i).2]) (by simp [results,Tryz.results203,go_sem,hz,kc,kf]) rfl ⟨rfl,?_⟩;exact Below.setCell (Below.setCell ((zaA w _).trans Hk.out) (Nat.le_refl _) _) (Nat.le_refl _) _
 ·have q:=HD.out;rw[if_neg c1,if_neg c2,if_neg c3,if_neg c4] at q;rw[q];clear q HD;go_enter Tryz.func203,Tryz.ntmps203;go_wp2_with fail
  all_goals exact bodyPost_ret (v:=.agg #[.int .i64 _,.int .i64 _]) (by simp [results,Tryz.results203,go_sem]) rfl ⟨rfl,zaA _ _⟩
end Go.Proofs.YtmcoomlkbgiboaaGreatDoor
