/- What every row of the laws of cite needs: the world of the witness with the seven variables, the table of tens and that of spaces. No condition. -/
import Derived.Test.YtmcoomlkbgiboaaGreatDoorV47
import Derived.Lib.ItoaNum
import Derived.Lib.Space
import Derived.Lib.SpaceR
import Derived.Stop.LaidErr
import Derived.MakeChecks
import Derived.Shelf.Vars
import Derived.Deep.DeepWitnessRowRef
set_option linter.all false
set_option maxRecDepth 100000
namespace Go.Proofs.YtmcoomlkbgiboaaGreatDoor
open Go.ChangeShapes Go.WideShapes Go.ChangeAt Go.RowKit
abbrev TabW (W:World):Prop:=Lib.TabIs Tryz.prog W "internal/strconv.uint64pow10" .u64 Lib.pow10Tab/\Lib.TabIs Tryz.prog W "strings.asciiSpace" .u8 Lib.asciiSpaceTab
def zlA (k:IntKind) (zs:List Int):Array Value:=(zs.map fun z=>Value.int k z).toArray
def zFX:List Int:=[0,1,28,2,29,14,24,3,30,22,20,15,25,17,4,8,31,27,13,23,21,19,16,7,26,12,18,6,11,5,10,9]
def zFY:List Int:=[0,1,56,2,57,49,28,3,61,58,42,50,38,29,17,4,62,47,59,36,45,43,51,22,53,39,33,30,24,18,12,5,63,55,48,27,60,41,37,16,46,35,44,21,52,32,23,11,54,26,40,15,34,20,31,10,25,14,19,9,13,8,7,6]
noncomputable def zF7:Nat:=(World.holding Tryz.prog default ⟨#[],#[],[]⟩).heap.size
noncomputable def zfH (os:Os):World :=
 let w0:=World.holding Tryz.prog os ⟨#[.cells (Lib.whiteT.map fun (z:Nat)=>Value.int .u16 (z:Int)).toArray 240,.cells #[.slice (some ⟨zF7,0,none⟩) 7 7,.slice none 0 0,.int .i64 2] 237],#[],[]⟩
 { w0 with heap:=((((((w0.heap.modify 4 (zfX firstCells)).modify 5 (zfX zt6)).modify 6 (zfX (zlA .u8 zFX))).modify 7 (zfX (zlA .u8 zFY))).modify 3 (zfX (zlA .u64 Lib.pow10Tab))).modify 0 (zfX (zlA .u8 Lib.asciiSpaceTab))).modify 1 (zfX #[.pointer (some ⟨zF7+1,0,none⟩)]) }
abbrev zEI:List (String × DataW Unit):=[("math/bits.deBruijn32tab",Rows.laid_math_bits_deBruijn32tab),("math/bits.deBruijn64tab",Rows.laid_math_bits_deBruijn64tab),("internal/strconv.uint64pow10",Rows.laid_internal_strconv_uint64pow10),("unicode/utf8.acceptRanges",Rows.laid_unicode_utf8_acceptRanges),("unicode.White_Space",Rows.laid_unicode_White_Space),("strings.asciiSpace",Rows.laid_strings_asciiSpace),("unicode/utf8.first",Rows.laid_unicode_utf8_first)]
def ndB:List MemPlace->Nat->Bool
 | [],_=>true
 | .cell b off :: r,s=>decide (off<512) && (!s.testBit (b * 512+off) && ndB r (s ||| 2 ^ (b * 512+off)))
 | .map _ :: _,_=>false
theorem zDN:∀ (ps:List MemPlace) (s:Nat),ndB ps s=true->ps.Nodup/\∀ p∈ps,∃ b off,p=.cell b off/\off<512/\s.testBit (b * 512+off)=false
 | [],_,_=>⟨List.nodup_nil,fun _ h=>(List.not_mem_nil h).elim⟩
 | .cell b off :: r,s,h=>by
  unfold ndB at h;rw[Bool.and_eq_true,Bool.and_eq_true,decide_eq_true_eq,Bool.not_eq_true'] at h;obtain ⟨h1,h2,h3⟩:=h;obtain ⟨i1,i2⟩:=zDN r _ h3;refine ⟨List.nodup_cons.2 ⟨fun hm=>?_,i1⟩,fun p hp=>?_⟩
  ·obtain ⟨b',off',e,_,q⟩:=i2 _ hm;cases e;rw[Nat.testBit_or,Nat.testBit_two_pow_self,Bool.or_true] at q;cases q
  ·rcases List.mem_cons.1 hp with rfl|hp
   ·exact ⟨b,off,rfl,h1,h2⟩
   ·obtain ⟨b',off',e,h4,q⟩:=i2 p hp;refine ⟨b',off',e,h4,?_⟩;rw[Nat.testBit_or,Bool.or_eq_false_iff] at q;exact q.1
 | .map _ :: _,_,h=>by simp [ndB] at h
theorem zt7 {P:Program} {w:World} {l:List (String × DataW Unit)} (fuel:Nat) (h:(DataW.laidRun P w fuel (l.map (·.1))).map (·.1)=some l)
  (hr:(DataW.laidRun P w fuel (l.map (·.1))).map (fun x=>ndB x.2 0 && laidRowsB P w x.2)=some true):laidMet P l w:=by
 cases hx:DataW.laidRun P w fuel (l.map (·.1)) with
 | none=>simp [hx] at h
 | some x =>
  obtain ⟨l',ps⟩:=x;simp only[hx,Option.map_some,Option.some.injEq] at h hr;subst h;simp only[Bool.and_eq_true] at hr;exact laidMet_of_run fuel hx (decide_eq_true (zDN _ _ hr.1).1) hr.2
theorem zBf (os:Os) (args:Array Value):laidMet Tryz.prog zEI ((zfH os).forCall (fun _ _=>0) ⟨#[],args,[]⟩).memory :=
 zt7 10 (by kernel_rfl) (by kernel_rfl)
theorem zBg (os:Os) (args:Array Value):((zfH os).forCall (fun _ _=>0) ⟨#[],args,[]⟩).variablesRefB Tryz.checked.prog=true:=by kernel_rfl
theorem zxL (os:Os) (args:Array Value):(((zfH os).forCall (fun _ _=>0) ⟨#[],args,[]⟩).heap.toList.drop Tryz.checked.prog.globals.size).take ((begin Tryz.checked.prog (fun _ _=>0) default).world.heap.size - Tryz.checked.prog.globals.size)=(begin Tryz.checked.prog (fun _ _=>0) default).world.heap.toList.drop Tryz.checked.prog.globals.size:=by kernel_rfl
theorem zFx {W:World} (h:laidMet Tryz.prog zEI W):TabW W :=
 ⟨Lib.tabIs_of_head (g:=3) (t:=285) (e:=267) (n:=20) (by kernel_rfl) (by kernel_rfl) (by kernel_rfl) (by kernel_rfl) (by kernel_rfl) (by kernel_rfl) (h.tail.tail),
  Lib.tabIs_of_head (g:=0) (t:=155) (e:=5) (n:=256) (by kernel_rfl) (by kernel_rfl) (by kernel_rfl) (by kernel_rfl) (by kernel_rfl) (by kernel_rfl) (h.tail.tail.tail.tail.tail)⟩
theorem zEJ {W:World} (h:laidMetH Tryz.prog zEI W):TabW W:=by
 rw[Go.MakeChecks.laidMetH_plain _ _ _ (by kernel_rfl)] at h;exact zFx h
end Go.Proofs.YtmcoomlkbgiboaaGreatDoor
