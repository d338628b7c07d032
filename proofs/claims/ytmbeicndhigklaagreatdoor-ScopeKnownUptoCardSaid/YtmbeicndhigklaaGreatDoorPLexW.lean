/-
The cells of tokens; the words of the language (chapter 14).
-/
import Derived.Test.YtmbeicndhigklaaGreatDoorPUtfC
import Derived.Test.YtmbeicndhigklaaGreatDoorPLexV
namespace Go.Proofs.YtmbeicndhigklaaGreatDoor
open Lib (hid)
open Go.RowKit
theorem tkCells_at:∀(l:List Tk) (i:Nat) (k:Tk),l[i]?=some k→(tkCells l)[i * 3]?=some (.int .i64 (k.kind:Int))∧(tkCells l)[i * 3+1]?=some (.string ⟨k.text.toArray⟩)∧(tkCells l)[i * 3+2]?=some (.int .i64 (k.pos:Int))
 | [],i,k,h=>by simp at h
 | a::r,0,k,h=>by
  obtain rfl:a=k:=by simpa using h
  exact ⟨rfl,rfl,rfl⟩
 | a::r,i+1,k,h=>by
  obtain ⟨h1,h2,h3⟩:=tkCells_at r i k (by simpa using h)
  have e:∀j,(tkCells (a::r))[(i+1) * 3+j]?=(tkCells r)[i * 3+j]?:=fun j=>by
   show ([Value.int .i64 (a.kind:Int),.string ⟨a.text.toArray⟩,.int .i64 (a.pos:Int)]++tkCells r)[(i+1) * 3+j]? = _
   rw [List.getElem?_append_right (by simp;omega)]
   congr 1
   simp;omega
  have e0:=e 0
  rw [Nat.add_zero,Nat.add_zero] at e0
  rw [e0,e 1,e 2]
  exact ⟨h1,h2,h3⟩
end Go.Proofs.YtmbeicndhigklaaGreatDoor
namespace Go.Proofs.YtmbeicndhigklaaGreatDoor
open Lib (hid)
open Go.RowKit
def RetWd (v:Value) (X:World→Prop) (e:Ending) (w':World):Prop:=e=.returned v∧X w'
theorem RetWd.of {P:Program} {f:FuncId} {args:Array Value} {w:World} {v:Value} {X:World→Prop} (h:Calls P f args w fun e w'=>e=.returned v∧X w'):Calls P f args w (RetWd v X):=h
def wordsL:List ByteArray:=[⟨#[97,110,100]⟩,⟨#[97,115]⟩,⟨#[98,114,101,97,107]⟩,⟨#[99,97,116,99,104]⟩,⟨#[100,101,102]⟩,⟨#[101,108,105,102]⟩,⟨#[101,108,115,101]⟩,⟨#[101,110,100]⟩,⟨#[102,111,114,101,97,99,104]⟩,⟨#[105,102]⟩,⟨#[108,97,98,101,108]⟩,⟨#[111,114]⟩,⟨#[114,101,100,117,99,101]⟩,⟨#[116,104,101,110]⟩,⟨#[116,114,121]⟩]
theorem words_cell (w:World) (T:TypeId) (j:Nat) (hj:j<wordsL.length):(w.alloc (.cells (wordsL.map Value.string).toArray T)).cell? ⟨w.heap.size,0+j,none⟩=some (.string (wordsL.getD j ByteArray.empty)):=by
 rw [Lib.cell_of_heap (World.alloc_heap_new w _),Nat.zero_add]
 simp [List.getElem?_map,List.getElem?_eq_getElem hj]
set_option maxHeartbeats 1000000 in
set_option maxRecDepth 100000 in
theorem lexWord_any (s:ByteArray) (w:World) :
  Calls Tryz.prog 50 #[.string s] w fun e w'=>e=.returned (.bool (Lib.containsS wordsL s))∧Below w.heap.size w w':=by
 have k1:=Tryz.slices_Contains_string w.heap.size 0 15 15 wordsL s (w.alloc (.cells (wordsL.map Value.string).toArray 9)) (by decide) (by decide) (words_cell w _)
 have htk:wordsL.take 15=wordsL:=rfl
 rw [htk] at k1
 have hcells:(wordsL.map Value.string).toArray=#[.string ⟨#[97,110,100]⟩,.string ⟨#[97,115]⟩,.string ⟨#[98,114,101,97,107]⟩,.string ⟨#[99,97,116,99,104]⟩,.string ⟨#[100,101,102]⟩,.string ⟨#[101,108,105,102]⟩,.string ⟨#[101,108,115,101]⟩,.string ⟨#[101,110,100]⟩,.string ⟨#[102,111,114,101,97,99,104]⟩,.string ⟨#[105,102]⟩,.string ⟨#[108,97,98,101,108]⟩,.string ⟨#[111,114]⟩,.string ⟨#[114,101,100,117,99,101]⟩,.string ⟨#[116,104,101,110]⟩,.string ⟨#[116,114,121]⟩]:=rfl
 rw [hcells] at k1
 generalize Lib.containsS wordsL s=B at k1
 have K1:=hid (RetWd.of k1)
 clear k1 htk hcells
 go_enter Tryz.func50,Tryz.ntmps50
 go_wp2_with (go_at_call 25;refine K1.out.mono ?_)
 rintro e w1 ⟨rfl,rfl⟩
 go_wp2
 go_ret
 exact ⟨rfl,(Below.refl _ w).alloc (Nat.le_refl _) _⟩
end Go.Proofs.YtmbeicndhigklaaGreatDoor
