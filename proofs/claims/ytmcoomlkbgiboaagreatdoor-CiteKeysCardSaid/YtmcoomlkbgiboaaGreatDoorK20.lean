/- Texts that a call has gathered, as a slice. No condition. -/
import Derived.Test.YtmcoomlkbgiboaaGreatDoorK04
import Derived.Test.YtmcoomlkbgiboaaGreatDoorK16
import Derived.Test.YtmcoomlkbgiboaaGreatDoorK09
import Derived.Test.YtmcoomlkbgiboaaGreatDoorK06
import Derived.Test.YtmcoomlkbgiboaaGreatDoorK05
import Derived.Laws.Cover4

set_option linter.all false
namespace Go.Proofs.YtmcoomlkbgiboaaGreatDoor
open Go.RowKit

theorem Strs.outO {base:Nat} {A:Nat→Prop} {w:World} {v:Value} {xs:List Bs} (h:OutG StrK 1 A base 9 w v xs):Strs w v xs:=by
 obtain ⟨css,h1,h2,ho,h4⟩:=h
 have e:css.flatten=strCells xs:=by
  clear ho
  induction css generalizing xs with
  | nil=>cases xs with
   | nil=>rfl
   | cons _ _=>simp at h1
  | cons c css ih =>
   cases xs with
   | nil=>simp at h1
   | cons x xs =>
    have hc:=h4 0 c x rfl rfl
    unfold StrK at hc
    subst hc
    have:=ih (xs:=xs) (by simpa using h1) (fun cs h=>h2 cs (List.mem_cons_of_mem _ h)) (fun j cs x hc hx=>h4 (j+1) cs x (by simpa using hc) (by simpa using hx))
    rw [List.flatten_cons,this]; rfl
 rw [e] at ho
 exact Strs.own ho
/-- To stop a walk at an operation. -/
theorem holdC {p:Prop} (h:Hid p):p:=h.out
end Go.Proofs.YtmcoomlkbgiboaaGreatDoor

/- Plain law of initials: what a walk over code points gathers is what the pieces' first code points make. No condition. -/
set_option linter.all false
namespace Go.Proofs.YtmcoomlkbgiboaaGreatDoor
open Go.RowKit

/-- The sign of a piece: its first code point and a period. -/
def pieceI (x:Bs):Bs:=encL (dec (bs x) 0).1 ++ [46]
/-- What is still to be written for the rest of a given name: begins: the next character begins a piece; inWord: the word has a piece already; some: something is written. -/
def ini:Bs→Bool→Bool→Bool→Bs
 | [],_,_,_=>[]
 | b :: r,bg,iw,sm =>
  if b=32 then ini r true false sm
  else if b=45 then ini r true iw sm
  else if bg then (if iw then [45] else if sm then [32] else []) ++ pieceI (b :: r) ++ ini r false true true
  else ini r false iw sm
theorem ini_cons (b:UInt8) (r:Bs) (bg iw sm:Bool):ini (b :: r) bg iw sm=if b=32 then ini r true false sm else if b=45 then ini r true iw sm
  else if bg then (if iw then [45] else if sm then [32] else []) ++ pieceI (b :: r) ++ ini r false true true else ini r false iw sm:=rfl
/-- The pieces of a word, the initials of a word, of a given name. -/
def piecesOf (c:UInt8) (l:Bs):List Bs:=(splitC c l).filter nonE
def iniW (w:Bs):Bs:=Lib.join ((piecesOf 45 w).map pieceI) [45]
def initialsL (g:Bs):Bs:=joinedL ((piecesOf 32 g).map iniW)

theorem ini_skip (x t:Bs) (iw sm:Bool) (h1:(32:UInt8) ∉ x) (h2:(45:UInt8) ∉ x):ini (x ++ t) false iw sm=ini t false iw sm:=by
 induction x with
 | nil=>rfl
 | cons b x ih =>
  rw [List.cons_append,ini_cons,if_neg (fun q=>h1 (by rw [q]; simp)),if_neg (fun q=>h2 (by rw [q]; simp))]
  rw [if_neg (by simp)]
  exact ih (fun q=>h1 (by simp [q])) (fun q=>h2 (by simp [q]))
def lead (iw sm:Bool):Bs:=if iw then [45] else if sm then [32] else []
theorem ini_piece (x t:Bs) (iw sm:Bool) (hx:x≠[]) (h1:(32:UInt8) ∉ x) (h2:(45:UInt8) ∉ x) (ht:t=[]∨at8 t 0<128) :
  ini (x ++ t) true iw sm=lead iw sm ++ pieceI x ++ ini t false true true:=by
 cases x with
 | nil=>exact absurd rfl hx
 | cons b x =>
  have hd:pieceI ((b :: x) ++ t)=pieceI (b :: x):=by unfold pieceI; rw [dec_cut (b :: x) t (by simp) ht]
  rw [List.cons_append] at hd ⊢
  rw [ini_cons,if_neg (fun q=>h1 (by rw [q]; simp)),if_neg (fun q=>h2 (by rw [q]; simp)),if_pos rfl,hd,
   ini_skip x t true true (fun q=>h1 (by simp [q])) (fun q=>h2 (by simp [q]))]
  rfl

def TailOK (t:Bs):Prop:=t=[]∨∃ r,t=32 :: r
theorem TailOK.low {t:Bs} (h:TailOK t):t=[]∨at8 t 0<128:=by
 rcases h with rfl | ⟨r,rfl⟩
 ·exact .inl rfl
 ·exact .inr (by show ((32:UInt8).toNat:Int)<128; decide)
theorem TailOK.same {t:Bs} (h:TailOK t) (bg iw sm:Bool):ini t bg iw sm=ini t true false sm:=by
 rcases h with rfl | ⟨r,rfl⟩
 ·rfl
 ·rw [ini_cons,ini_cons]; simp
theorem first_split (c:UInt8) (l:Bs):c ∉ l∨∃ a r,l=a ++ c :: r∧c ∉ a∧r.length<l.length:=by
 rcases index_one l c with ⟨_,h⟩ | ⟨i,_,h2,h3,h4⟩
 ·exact .inl h
 ·exact .inr ⟨l.take i,l.drop (i+1),h4,h3,by simp; omega⟩
def wordOut (iw sm:Bool) (ps:List Bs):Bs:=if ps=[] then [] else lead iw sm ++ Lib.join (ps.map pieceI) [45]
theorem join_two (sep x:Bs) (r:List Bs):Lib.join (x :: r) sep=x ++ (if r=[] then [] else sep ++ Lib.join r sep):=by
 cases r with
 | nil=>simp [Lib.join_one]
 | cons y r =>
  rw [Lib.join_cons,Lib.join_cons]
  simp [Lib.joinTail]
theorem pieces_none (c:UInt8) (l:Bs) (h:c ∉ l):piecesOf c l=if l=[] then [] else [l]:=by
 unfold piecesOf; rw [splitC_none c l h]
 by_cases q:l=[]
 ·subst q; rfl
 ·rw [if_neg q]; simp [nonE,q]
theorem pieces_at (c:UInt8) (a r:Bs) (h:c ∉ a):piecesOf c (a ++ c :: r)=(if a=[] then [] else [a]) ++ piecesOf c r:=by
 unfold piecesOf; rw [splitC_at c a r h,List.filter_cons]
 by_cases q:a=[]
 ·subst q; rfl
 ·rw [if_neg q,if_pos (by simp [nonE,q])]; rfl
theorem ini_word:∀ (n:Nat) (w t:Bs) (iw sm:Bool),w.length≤n→(32:UInt8) ∉ w→TailOK t →
  ini (w ++ t) true iw sm=wordOut iw sm (piecesOf 45 w) ++ ini t true false (sm || !(piecesOf 45 w).isEmpty)
 | n,w,t,iw,sm,hn,h32,ht=>by
  rcases first_split 45 w with h | ⟨a,r,rfl,ha,hr⟩
  ·rw [pieces_none 45 w h]
   by_cases q:w=[]
   ·subst q
    rw [if_pos rfl,List.nil_append,ht.same]
    simp [wordOut]
   ·rw [if_neg q,ini_piece w t iw sm q h32 h ht.low,ht.same]
    simp [wordOut,Lib.join_one]
  ·cases n with
   | zero=>simp at hn
   | succ n =>
    have h32a:(32:UInt8) ∉ a:=fun q=>h32 (by simp [q])
    have h32r:(32:UInt8) ∉ r:=fun q=>h32 (by simp [q])
    rw [pieces_at 45 a r ha]
    by_cases q:a=[]
    ·subst q
     rw [if_pos rfl,List.nil_append,List.nil_append,List.cons_append,ini_cons,if_neg (by decide),if_pos rfl]
     exact ini_word n r t iw sm (by simp at hr hn; omega) h32r ht
    ·rw [if_neg q,List.append_assoc,List.cons_append,ini_piece a (45 :: (r ++ t)) iw sm q h32a ha (.inr (by show ((45:UInt8).toNat:Int)<128; decide)),
      ini_cons,if_neg (by decide),if_pos rfl,ini_word n r t true true (by simp at hr hn; omega) h32r ht]
     by_cases z:piecesOf 45 r=[]
     ·rw [z]; simp [wordOut,Lib.join_one]
     ·have e1:wordOut true true (piecesOf 45 r)=[45] ++ Lib.join ((piecesOf 45 r).map pieceI) [45]:=by unfold wordOut; rw [if_neg z]; rfl
      have e2:wordOut iw sm ([a] ++ piecesOf 45 r)=lead iw sm ++ (pieceI a ++ ([45] ++ Lib.join ((piecesOf 45 r).map pieceI) [45])):=by
       unfold wordOut; rw [if_neg (by simp),List.singleton_append,List.map_cons,join_two,if_neg (by simpa using z)]
      rw [e1,e2]; simp
theorem pieceI_ne (x:Bs):pieceI x≠[]:=by unfold pieceI; simp
theorem iniW_nil (w:Bs):iniW w=[]↔piecesOf 45 w=[]:=by
 unfold iniW
 constructor
 ·intro h
  cases hp:piecesOf 45 w with
  | nil=>rfl
  | cons a r =>
   rw [hp,List.map_cons,join_two] at h
   simp [pieceI_ne] at h
 ·intro h; rw [h]; rfl
def wsOf (g:Bs):List Bs:=((splitC 32 g).map iniW).filter nonE
def seqOut (sm:Bool) (ws:List Bs):Bs:=if ws=[] then [] else lead false sm ++ Lib.join ws [32]
theorem wordOut_iniW (sm:Bool) (w:Bs):wordOut false sm (piecesOf 45 w)=seqOut sm ([iniW w].filter nonE):=by
 unfold wordOut seqOut
 by_cases h:piecesOf 45 w=[]
 ·rw [if_pos h,(iniW_nil w).2 h]; rfl
 ·have hn:iniW w≠[]:=fun q=>h ((iniW_nil w).1 q)
  have e:[iniW w].filter nonE=[iniW w]:=by simp [nonE,hn]
  rw [if_neg h,e,if_neg (by simp),Lib.join_one]; rfl
theorem ini_all:∀ (n:Nat) (g:Bs) (sm:Bool),g.length≤n→ini g true false sm=seqOut sm (wsOf g)
 | n,g,sm,hn=>by
  rcases first_split 32 g with h | ⟨a,r,rfl,ha,hr⟩
  ·have:=ini_word g.length g [] false sm (Nat.le_refl _) h (.inl rfl)
   rw [List.append_nil] at this
   rw [this,wordOut_iniW]
   unfold wsOf; rw [splitC_none 32 g h]
   simp [ini]
  ·cases n with
   | zero=>simp at hn
   | succ n =>
    rw [ini_word a.length a (32 :: r) false sm (Nat.le_refl _) ha (.inr ⟨r,rfl⟩),ini_cons,if_pos rfl,ini_all n r _ (by simp at hr hn; omega),wordOut_iniW]
    unfold wsOf
    rw [splitC_at 32 a r ha,List.map_cons,List.filter_cons (x:=iniW a) (xs:=(splitC 32 r).map iniW)]
    by_cases h:piecesOf 45 a=[]
    ·have e:iniW a=[]:=(iniW_nil a).2 h
     have e2:(piecesOf 45 a).isEmpty=true:=by simp [h]
     rw [e,e2,if_neg (by simp [nonE])]
     simp [seqOut,nonE]
    ·have hn:iniW a≠[]:=fun q=>h ((iniW_nil a).1 q)
     have e2:(piecesOf 45 a).isEmpty=false:=by simpa using h
     have e:[iniW a].filter nonE=[iniW a]:=by simp [nonE,hn]
     rw [e,e2,if_pos (by simp [nonE,hn])]
     generalize ((splitC 32 r).map iniW).filter nonE=ws
     have e3:seqOut sm [iniW a]=lead false sm ++ iniW a:=by unfold seqOut; rw [if_neg (by simp),Lib.join_one]
     have e4:seqOut sm (iniW a :: ws)=lead false sm ++ (iniW a ++ (if ws=[] then [] else [32] ++ Lib.join ws [32])):=by unfold seqOut; rw [if_neg (by simp),join_two]
     rw [e3,e4]
     unfold seqOut
     by_cases z:ws=[]
     ·rw [if_pos z,if_pos z]; simp
     ·rw [if_neg z,if_neg z]; simp [lead]
theorem initials_ini (g:Bs):initialsL g=ini g true false false:=by
 rw [ini_all g.length g false (Nat.le_refl _)]
 unfold initialsL joinedL seqOut piecesOf
 have e:∀ xs:List Bs,((xs.filter nonE).map iniW).filter nonE=(xs.map iniW).filter nonE:=by
  intro xs
  induction xs with
  | nil=>rfl
  | cons a r ih =>
   rw [List.filter_cons,List.map_cons,List.filter_cons (x:=iniW a)]
   by_cases q:a=[]
   ·subst q
    have:iniW []=[]:=rfl
    rw [this,if_neg (by simp [nonE]),if_neg (by simp [nonE]),ih]
   ·rw [if_pos (by simp [nonE,q]),List.map_cons,List.filter_cons (x:=iniW a),ih]
 rw [e]
 by_cases z:wsOf g=[]
 ·rw [if_pos z]; unfold wsOf at z; rw [z]; rfl
 ·rw [if_neg z]; rfl
end Go.Proofs.YtmcoomlkbgiboaaGreatDoor

/- person.Initials. Conditions: the length of the given name. -/
set_option linter.all false
namespace Go.Proofs.YtmcoomlkbgiboaaGreatDoor
open Go.RowKit

def runesL (ns:List Int):Bs:=ns.flatMap encL
theorem runesL_snoc (ns:List Int) (c:Int):runesL (ns ++ [c])=runesL ns ++ encL c:=by simp [runesL]
theorem runesL_two (ns:List Int) (c d:Int):runesL (ns ++ [c,d])=runesL ns ++ encL c ++ encL d:=by simp [runesL]
theorem foldl_runes:∀ (ns:List Int) (x:Bs),ns.foldl (fun r n=>r ++ Utf8.encode n) (bs x)=bs (x ++ runesL ns)
 | [],x=>by simp [runesL]
 | n :: ns,x=>by
  rw [List.foldl_cons,encode_bs,bs_append,foldl_runes ns]
  simp [runesL]
theorem runesBytes_bs (ns:List Int):runesBytes ns=bs (runesL ns):=by
 unfold runesBytes; rw [empty_bs,foldl_runes]; simp
def runeCells (ns:List Int):List Value:=ns.map (Value.int .i32)
theorem run_runes (w:World) (base:Nat) (v:Value) (ns:List Int) (h:w.ownsRow base 21 1 v ns.length (runeCells ns)) :
  (convert 151 9 v).run Tryz.prog w=.ok (.string (bs (runesL ns))) w:=by
 rcases h.2 with ⟨rfl,hn⟩ | ⟨g,cap,cur,rfl,_⟩
 ·obtain rfl:ns=[]:=List.length_eq_zero_iff.1 hn
  rw [run_convert_runes_string w 151 9 21 none 0 0 Tryz.underlying151 Tryz.underlying21 Tryz.underlying9]
  simp [Conv.runesToString,runesL,Sem.run_pure]
 ·rw [run_convert_runes_string w 151 9 21 _ _ _ Tryz.underlying151 Tryz.underlying21 Tryz.underlying9]
  have hc:=h.cells (g:=g) rfl
  have hl:=run_loadCells_list (P:=Tryz.prog) (w:=w) ⟨g,0,none⟩ (runeCells ns) hc
  have e:(runeCells ns).length=ns.length:=by simp [runeCells]
  rw [e] at hl
  rw [run_runesToString w ⟨g,0,none⟩ ns.length cap ns hl,runesBytes_bs]

theorem ini_step (g:Bs) (pos:Nat) (h:pos<g.length) (c n:Int) (hd:dec (bs g) pos=(c,n)) (bg iw sm:Bool) :
  (c=32∧n=1∧ini (g.drop pos) bg iw sm=ini (g.drop (pos+1)) true false sm) ∨
  (c=45∧n=1∧ini (g.drop pos) bg iw sm=ini (g.drop (pos+1)) true iw sm) ∨
  (c≠32∧c≠45∧ini (g.drop pos) bg iw sm=if bg then lead iw sm ++ (encL c ++ [46]) ++ ini (g.drop (pos+n.toNat)) false true true else ini (g.drop (pos+n.toNat)) false iw sm):=by
 have hp:pieceI (g.drop pos)=encL c ++ [46]:=by unfold pieceI; rw [dec_shift,hd]
 have hcons:g.drop pos=g[pos] :: g.drop (pos+1):=List.drop_eq_getElem_cons h
 have ha:=at8_get g pos h
 by_cases hlo:at8 g pos<128
 ·have hdd:=dec_ascii g pos hlo
  rw [hd] at hdd
  obtain ⟨rfl,rfl⟩:=Prod.mk.injEq _ _ _ _ ▸ hdd
  rw [hcons] at hp ⊢
  rw [ini_cons]
  have k32:=u8_int g[pos] 32 (by decide)
  have k45:=u8_int g[pos] 45 (by decide)
  rw [← ha] at k32 k45
  by_cases q:g[pos]=32
  ·left; exact ⟨k32.2 q,rfl,by rw [if_pos q]⟩
  by_cases q2:g[pos]=45
  ·right; left; exact ⟨k45.2 q2,rfl,by rw [if_neg q,if_pos q2]⟩
  ·right; right
   refine ⟨fun e=>q (k32.1 e),fun e=>q2 (k45.1 e),?_⟩
   rw [if_neg q,if_neg q2,hp]; rfl
 ·right; right
  obtain ⟨hc,hbytes⟩:=dec_high (bs g) pos (by rw [byteAt_bs]; omega)
  rw [hd] at hc hbytes
  simp only at hc hbytes
  have hb:=dec_bounds (bs g) pos h
  rw [hd] at hb
  simp only [bs_size] at hb
  refine ⟨by omega,by omega,?_⟩
  have hq:g[pos]≠32:=fun e=>by
     rw [e] at ha; have:((32:UInt8).toNat:Int)=32:=by decide
     omega
  have hq2:g[pos]≠45:=fun e=>by
     rw [e] at ha; have:((45:UInt8).toNat:Int)=45:=by decide
     omega
  have hsplit:g.drop (pos+1)=(g.drop (pos+1)).take (n.toNat - 1) ++ g.drop (pos+n.toNat):=by
   conv=>lhs; rw [← List.take_append_drop (n.toNat - 1) (g.drop (pos+1))]
   rw [List.drop_drop,show pos+1+(n.toNat - 1)=pos+n.toNat from by omega]
  have hnot:∀ x∈(g.drop (pos+1)).take (n.toNat - 1),128≤(x.toNat:Int):=by
   intro x hx
   obtain ⟨j,hj,rfl⟩:=List.getElem_of_mem hx
   simp only [List.length_take,List.length_drop] at hj
   have hbj:=hbytes (1+j) (by omega)
   rw [byteAt_bs,← Nat.add_assoc,at8_get g (pos+1+j) (by omega)] at hbj
   simp only [List.getElem_take,List.getElem_drop]
   exact hbj
  have hsk:∀ iw sm,ini (g.drop (pos+1)) false iw sm=ini (g.drop (pos+n.toNat)) false iw sm:=by
   intro iw sm
   rw [hsplit]
   exact ini_skip _ _ iw sm (fun q=>by have:=hnot _ q; revert this; decide) (fun q=>by have:=hnot _ q; revert this; decide)
  rw [hcons] at hp ⊢
  rw [ini_cons,if_neg hq,if_neg hq2,hp,hsk,hsk]; rfl

theorem Tryz.infoRune:(Tryz.prog.info? 21).map (fun i=>(i.zero,i.size,i.bytes))=some (some (.int .i32 0),1,4):=by kernel_rfl

/-- What an append on the call's own row leaves of the rest. -/
theorem grown_rest {w w':World} {base k:Nat} {e:TypeId} {size:Nat} {v:Value} {n:Nat} {xs:List Value} {o:Obj} (h:w.ownsRow base e size v n xs) (hg:(w.alloc o).grownBy w' v.ownBlock) (hk:k<base) (hb:base≤w.heap.size) :
  w'.heap[k]? = w.heap[k]? ∧ base≤w'.heap.size∧Below base w w':=by
 have hB:Below base w w':=((Below.refl base w).alloc hb o).trans (grown_below (h.alloc o) hg (by simp; omega))
 exact ⟨hB.block k hk,by have:=hB.size; omega,hB⟩
theorem own_iterAt {w:World} {base:Nat} {e:TypeId} {size:Nat} {v:Value} {n:Nat} {xs:List Value} (h:w.ownsRow base e size v n xs) (k:Nat) (hk:k<base) (s:ByteArray) (pos:Nat):(w.iterAt k s pos).ownsRow base e size v n xs:=by
 obtain ⟨h1,h2⟩:=h
 refine ⟨h1,?_⟩
 rcases h2 with h2 | ⟨g,cap,cur,hv,hg,hh,r⟩
 ·exact Or.inl h2
 ·exact Or.inr ⟨g,cap,cur,hv,hg,by rw [Lib.iterAt_other _ _ _ _ _ (by omega)]; exact hh,r⟩

set_option maxRecDepth 100000 in
set_option maxHeartbeats 6400000 in
theorem initials_any (f g p s:Bs) (w:World) (hs:g.length≤10000000) :
  Calls Tryz.prog 135 #[persV f g p s] w fun e w'=>e=.returned (.string (bs (initialsL g)))∧Kept w w':=by
 obtain ⟨i0,hi,hz0,hz1,hz2⟩:=info_parts Tryz.infoRune
 have HI:Hid (initialsL g=runesL [] ++ ini (g.drop 0) true false false):=by show _=_; rw [initials_ini]; simp [runesL]
 go_enter Tryz.func135,Tryz.ntmps135
 go_wp2_with fail
 try simp only [mk_bs]
 go_loopw [3,4,5] (fun v bg iw wr=>∃ (pos:Nat) (ns:List Int) (b i:Bool),pos≤g.length∧ns.length≤3 * pos∧bg=.bool b∧iw=.bool i∧wr.heap[w.heap.size+1]? = some (.stringIter (bs g) pos)∧wr.ownsRow (w.heap.size+2) 21 1 v ns.length (runeCells ns)∧w.heap.size+2≤wr.heap.size∧Kept w wr∧Hid (initialsL g=runesL ns ++ ini (g.drop pos) b i (!ns.isEmpty))) (fun _ _ _ wr=>g.length - wr.iterPos (w.heap.size+1))
 case atStart=>exact ⟨0,[],true,false,Nat.zero_le _,Nat.le_refl _,rfl,rfl,by have:=World.iter_heap (w.alloc (.cells #[.string (bs f),.string (bs g),.string (bs p),.string (bs s)] 77)) (bs g) 0; simpa using this,World.ownsRow_nil _ _ _ _,by simp [World.iter],(kept_alloc _ _).trans (kept_alloc _ _),HI⟩
 case round =>
  obtain ⟨pos,ns,b,i,hp,hnl,rfl,rfl,hit,hown,hsz,hk,HA⟩:=hrel
  have hip:wr.iterPos (w.heap.size+1)=pos:=by simp [World.iterPos,hit]
  by_cases hlt:pos<g.length
  ·have nx:=fun ty=>run_next_k (P:=Tryz.prog) wr (w.heap.size+1) (bs g) pos ty hit hlt
   obtain ⟨c,n,hd⟩:∃ c n,dec (bs g) pos=(c,n):=⟨(dec (bs g) pos).1,(dec (bs g) pos).2,rfl⟩
   have hb:=dec_bounds (bs g) pos hlt
   have hst:=ini_step g pos hlt c n hd b i (!ns.isEmpty)
   rw [hd] at nx hb
   simp only [bs_size] at nx hb
   obtain ⟨b1,b2,b3,b4,b5⟩:=hb
   obtain ⟨n,rfl⟩:∃ n':Nat,n=n':=⟨n.toNat,by omega⟩
   simp only [Int.toNat_natCast] at nx hst
   have HIT:Hid ((wr.iterAt (w.heap.size+1) (bs g) (pos+n)).heap[w.heap.size+1]? = some (.stringIter (bs g) (pos+n))):=Lib.iterAt_heap wr (w.heap.size+1) (bs g) pos (pos+n) hit
   have HK2:Hid (Kept w (wr.iterAt (w.heap.size+1) (bs g) (pos+n))):=Lib.below_iterAt hk (by omega) (bs g) _
   have HO2:=Lib.hid (own_iterAt hown (w.heap.size+1) (by omega) (bs g) (pos+n))
   have hsz2:w.heap.size+2≤(wr.iterAt (w.heap.size+1) (bs g) (pos+n)).heap.size:=by rw [Lib.iterAt_size]; exact hsz
   have HIP:=Lib.hid hip
   clear hip hk hown hd hit
   generalize wr.iterAt (w.heap.size+1) (bs g) (pos+n)=wq at *
   have HIQ:Hid (wq.iterPos (w.heap.size+1)=pos+n):=by show _=_; have:=HIT.out; simp [World.iterPos,this]
   have hpn:pos+n≤g.length:=by omega
   rcases hst with ⟨rfl,h1,hst⟩ | ⟨rfl,h1,hst⟩ | ⟨h1,h2,hst⟩
   ·have HST:=Lib.hid hst
    obtain rfl:n=1:=by omega
    clear hst h1
    go_wp2_with fail
    go_roundw
    case rel=>exact ⟨pos+1,ns,true,false,by omega,by omega,rfl,rfl,HIT.out,HO2.out,hsz2,HK2.out,by show _=_; rw [HA.out,HST.out]⟩
    case measure=>rw [HIP.out,HIQ.out]; omega
   ·have HST:=Lib.hid hst
    obtain rfl:n=1:=by omega
    clear hst h1
    go_wp2_with fail
    go_roundw
    case rel=>exact ⟨pos+1,ns,true,i,by omega,by omega,rfl,rfl,HIT.out,HO2.out,hsz2,HK2.out,by show _=_; rw [HA.out,HST.out]⟩
    case measure=>rw [HIP.out,HIQ.out]; omega
   ·have t1:(c == 32)=false:=by simpa using h1
    have t2:(c == 45)=false:=by simpa using h2
    have HST:=Lib.hid hst
    clear hst h1 h2
    cases b
    ·go_wp2_with fail
     go_roundw
     case rel=>exact ⟨pos+n,ns,false,i,by omega,by omega,rfl,rfl,HIT.out,HO2.out,hsz2,HK2.out,by show _=_; rw [HA.out,HST.out]; rfl⟩
     case measure=>rw [HIP.out,HIQ.out]; omega
    ·have hown:=HO2.out
     clear HO2
     have HNE:Hid (∀ x y z:Int,(ns ++ [x,y,z]).isEmpty=false):=by intro x y z; cases ns <;> rfl
     obtain ⟨av,cv,hv,q1,q2,_⟩:=own_cap hown
     subst hv
     cases i
     ·by_cases hns:ns=[]
      ·subst hns
       simp only [List.length_nil,runeCells,List.map_nil] at hown hnl
       go_wp2_with (at_builtin; refine wpList_append_own _ rfl _ _ 151 rfl (w.heap.size+2) 21 i0 (.int .i32 0) 1 4 Tryz.underlying151 hi hz0 hz1 hz2 rfl (by decide) _ _ _ rfl (hown.alloc _) ⟨wq.heap.size,0,none⟩ 2 2 [.int .i32 c,.int .i32 46] rfl rfl (by exact new_cells _ #[.int .i32 c,.int .i32 46] _ _ (by simp)) (by intro u hu; simp at hu; first | (subst hu; rfl) | (rcases hu with rfl | rfl <;> rfl)) (by unfold maxLen; first | omega | (simp; omega)) (by first | omega | (simp; omega)) (by first | omega | (simp; omega)) ?_)
       intro v2 w3 hown2 hgrow _
       obtain ⟨r1,hown2z,r3⟩:=grown_rest (k:=w.heap.size+1) hown hgrow (by omega) (by omega)
       have HIT2:=Lib.hid (r1.trans HIT.out)
       have HB2:=Lib.hid r3
       have HOX:Hid (w3.ownsRow (w.heap.size+2) 21 1 v2 ([c,46]:List Int).length (runeCells [c,46])):=by show World.ownsRow _ _ _ _ _ _ _; simpa [runeCells] using hown2
       clear hown2 hgrow r1 r3 hown
       go_wp2_with fail
       go_roundw
       case rel=>exact ⟨pos+n,[c,46],false,true,by omega,by simp; omega,rfl,rfl,HIT2.out,HOX.out,hown2z,HK2.out.trans' (HB2.out.mono (by omega)),by show _=_; rw [HA.out,HST.out]; simp [lead,runesL,show encL 46=[46] from rfl]⟩
       case measure=>rw [HIP.out,show w3.iterPos (w.heap.size+1)=pos+n from by have:=HIT2.out; simp [World.iterPos,this]]; omega
      ·have hpos:0<ns.length:=List.length_pos_iff.2 hns
       have hne:ns.isEmpty=false:=by simpa using hns
       go_wp2_with (at_builtin; refine wpList_append_own _ rfl _ _ 151 rfl (w.heap.size+2) 21 i0 (.int .i32 0) 1 4 Tryz.underlying151 hi hz0 hz1 hz2 rfl (by decide) _ _ _ rfl (hown.alloc _) ⟨wq.heap.size,0,none⟩ 1 1 [.int .i32 32] rfl rfl (by exact new_cells _ #[.int .i32 32] _ _ (by simp)) (by intro u hu; simp at hu; first | (subst hu; rfl) | (rcases hu with rfl | rfl <;> rfl)) (by unfold maxLen; first | omega | (simp; omega)) (by first | omega | (simp; omega)) (by first | omega | (simp; omega)) ?_)
       intro v1 w2 hown1 hgrow _
       obtain ⟨r1,hown1z,r3⟩:=grown_rest (k:=w.heap.size+1) hown hgrow (by omega) (by omega)
       rw [show runeCells ns ++ [Value.int .i32 32]=runeCells (ns ++ [32]) from by simp [runeCells]] at hown1
       have HIT1:=Lib.hid (r1.trans HIT.out)
       have HB1:=Lib.hid r3
       have HO1:Hid (w2.ownsRow (w.heap.size+2) 21 1 v1 (ns ++ [32]).length (runeCells (ns ++ [32]))):=by show World.ownsRow _ _ _ _ _ _ _; simpa using hown1
       clear hown1 hgrow r1 r3 hown
       have hown1:=HO1.out
       go_wp2_with (at_builtin; refine wpList_append_own _ rfl _ _ 151 rfl (w.heap.size+2) 21 i0 (.int .i32 0) 1 4 Tryz.underlying151 hi hz0 hz1 hz2 rfl (by decide) _ _ _ rfl (hown1.alloc _) ⟨w2.heap.size,0,none⟩ 2 2 [.int .i32 c,.int .i32 46] rfl rfl (by exact new_cells _ #[.int .i32 c,.int .i32 46] _ _ (by simp)) (by intro u hu; simp at hu; first | (subst hu; rfl) | (rcases hu with rfl | rfl <;> rfl)) (by unfold maxLen; first | omega | (simp; omega)) (by first | omega | (simp; omega)) (by first | omega | (simp; omega)) ?_)
       intro v2 w3 hown2 hgrow _
       obtain ⟨r1,hown2z,r3⟩:=grown_rest (k:=w.heap.size+1) hown1 hgrow (by omega) (by omega)
       have HIT2:=Lib.hid (r1.trans HIT1.out)
       have HB2:=Lib.hid r3
       have HOX:Hid (w3.ownsRow (w.heap.size+2) 21 1 v2 ((ns ++ [32]) ++ [c,46]).length (runeCells ((ns ++ [32]) ++ [c,46]))):=by show World.ownsRow _ _ _ _ _ _ _; simpa [runeCells] using hown2
       clear hown2 hgrow r1 r3 hown1
       go_wp2_with fail
       go_roundw
       case rel=>exact ⟨pos+n,(ns ++ [32]) ++ [c,46],false,true,by omega,by simp; omega,rfl,rfl,HIT2.out,HOX.out,hown2z,HK2.out.trans' ((HB1.out.trans HB2.out).mono (by omega)),by show _=_; rw [HA.out,HST.out,runesL_two,runesL_snoc]; simp [lead,HNE.out,hne,show encL 32=[32] from rfl,show encL 46=[46] from rfl]⟩
       case measure=>rw [HIP.out,show w3.iterPos (w.heap.size+1)=pos+n from by have:=HIT2.out; simp [World.iterPos,this]]; omega
     ·obtain ⟨sm,hsm⟩:∃ sm,(!ns.isEmpty)=sm:=⟨_,rfl⟩
      go_wp2_with (at_builtin; refine wpList_append_own _ rfl _ _ 151 rfl (w.heap.size+2) 21 i0 (.int .i32 0) 1 4 Tryz.underlying151 hi hz0 hz1 hz2 rfl (by decide) _ _ _ rfl (hown.alloc _) ⟨wq.heap.size,0,none⟩ 1 1 [.int .i32 45] rfl rfl (by exact new_cells _ #[.int .i32 45] _ _ (by simp)) (by intro u hu; simp at hu; first | (subst hu; rfl) | (rcases hu with rfl | rfl <;> rfl)) (by unfold maxLen; first | omega | (simp; omega)) (by first | omega | (simp; omega)) (by first | omega | (simp; omega)) ?_)
      intro v1 w2 hown1 hgrow _
      obtain ⟨r1,hown1z,r3⟩:=grown_rest (k:=w.heap.size+1) hown hgrow (by omega) (by omega)
      rw [show runeCells ns ++ [Value.int .i32 45]=runeCells (ns ++ [45]) from by simp [runeCells]] at hown1
      have HIT1:=Lib.hid (r1.trans HIT.out)
      have HB1:=Lib.hid r3
      have HO1:Hid (w2.ownsRow (w.heap.size+2) 21 1 v1 (ns ++ [45]).length (runeCells (ns ++ [45]))):=by show World.ownsRow _ _ _ _ _ _ _; simpa using hown1
      clear hown1 hgrow r1 r3 hown
      have hown1:=HO1.out
      go_wp2_with (at_builtin; refine wpList_append_own _ rfl _ _ 151 rfl (w.heap.size+2) 21 i0 (.int .i32 0) 1 4 Tryz.underlying151 hi hz0 hz1 hz2 rfl (by decide) _ _ _ rfl (hown1.alloc _) ⟨w2.heap.size,0,none⟩ 2 2 [.int .i32 c,.int .i32 46] rfl rfl (by exact new_cells _ #[.int .i32 c,.int .i32 46] _ _ (by simp)) (by intro u hu; simp at hu; first | (subst hu; rfl) | (rcases hu with rfl | rfl <;> rfl)) (by unfold maxLen; first | omega | (simp; omega)) (by first | omega | (simp; omega)) (by first | omega | (simp; omega)) ?_)
      intro v2 w3 hown2 hgrow _
      obtain ⟨r1,hown2z,r3⟩:=grown_rest (k:=w.heap.size+1) hown1 hgrow (by omega) (by omega)
      have HIT2:=Lib.hid (r1.trans HIT1.out)
      have HB2:=Lib.hid r3
      have HOX:Hid (w3.ownsRow (w.heap.size+2) 21 1 v2 ((ns ++ [45]) ++ [c,46]).length (runeCells ((ns ++ [45]) ++ [c,46]))):=by show World.ownsRow _ _ _ _ _ _ _; simpa [runeCells] using hown2
      clear hown2 hgrow r1 r3 hown1
      go_wp2_with fail
      go_roundw
      case rel=>exact ⟨pos+n,(ns ++ [45]) ++ [c,46],false,true,by omega,by simp; omega,rfl,rfl,HIT2.out,HOX.out,hown2z,HK2.out.trans' ((HB1.out.trans HB2.out).mono (by omega)),by show _=_; rw [HA.out,HST.out,runesL_two,runesL_snoc]; simp [lead,HNE.out,show encL 45=[45] from rfl,show encL 46=[46] from rfl]⟩
      case measure=>rw [HIP.out,show w3.iterPos (w.heap.size+1)=pos+n from by have:=HIT2.out; simp [World.iterPos,this]]; omega

  ·have nx:=fun ty=>run_next_k_end (P:=Tryz.prog) wr (w.heap.size+1) (bs g) pos ty hit hlt
   have cv:=run_runes wr _ _ ns hown
   have HK:=Lib.hid hk
   clear hk
   go_wp2_with fail
   go_ret
   exact ⟨ret_bs (by rw [HA.out,List.drop_of_length_le (by omega)]; simp [ini]),HK.out⟩
end Go.Proofs.YtmcoomlkbgiboaaGreatDoor

/- The reference's Append. Conditions: lengths. -/
set_option linter.all false
namespace Go.Proofs.YtmcoomlkbgiboaaGreatDoor
open Go.RowKit

theorem encL_len (c:Int):(encL c).length≤4:=by have:=encode_size_le c; exact this
theorem dec_valid (s:ByteArray) (i:Nat):0≤(dec s i).1∧(dec s i).1≤1114111∧((dec s i).1<55296∨57343<(dec s i).1):=by
 have h0:=byteAt_lo s i
 have m0:∀ k l h,¬ moreOf s k l h<0→128≤l→l - 128≤moreOf s k l h∧moreOf s k l h≤h - 128:=by
  intro k l h q hl
  obtain ⟨_,h1,h2,h3⟩:=more_yes (s:=s) (i:=k) (l:=l) (h:=h) (by omega)
  omega
 unfold dec
 split
 ·simp only; omega
 split
 ·split
  ·rename_i q
   have:=m0 (i+1) 128 191 (by omega) (by omega)
   simp only; omega
  ·simp only; omega
 split
 ·rename_i hb
  unfold three
  split
  ·simp only; omega
  ·rename_i q
   simp only [not_or] at q
   have a:=m0 (i+1) (low3 (byteAt s i)) (high3 (byteAt s i)) q.1 (by unfold low3; split <;> omega)
   have b:=m0 (i+2) 128 191 q.2 (by omega)
   have c:high3 (byteAt s i)≤191∧(byteAt s i=237→high3 (byteAt s i)=159):=by unfold high3; split <;> omega
   have d:128≤low3 (byteAt s i):=by unfold low3; split <;> omega
   simp only; omega
 split
 ·rename_i hb
  unfold four
  split
  ·simp only; omega
  ·rename_i q
   simp only [not_or] at q
   have a:=m0 (i+1) (low4 (byteAt s i)) (high4 (byteAt s i)) q.1 (by unfold low4; split <;> omega)
   have b:=m0 (i+2) 128 191 q.2.1 (by omega)
   have b2:=m0 (i+3) 128 191 q.2.2 (by omega)
   have c:high4 (byteAt s i)≤191∧(byteAt s i=244→high4 (byteAt s i)=143):=by unfold high4; split <;> omega
   have d:128≤low4 (byteAt s i)∧(byteAt s i=240→low4 (byteAt s i)=144):=by unfold low4; split <;> omega
   simp only; omega
 ·simp only; omega

end Go.Proofs.YtmcoomlkbgiboaaGreatDoor
