/-
  The walk of Tokens (chapter 14).
  The walks of the laws' shown and great (chapter 14).
-/
import Derived.Test.YtnbfikfngekfoaaDoorLexL
import Derived.Test.YtnbfikfngekfoaaDoorUtfD
import Derived.Test.YtnbfikfngekfoaaDoorLexQ
namespace Go.Proofs.YtnbfikfngekfoaaDoor
open Go.RowKit

/-- what Tokens answers: a row of the call's own -/
def TokV (w0 : World) (l : List UInt8) (e : Ending) (w' : World) : Prop :=
  ∃ v, e = .returned (.tuple #[v, .int .i64 ((tokensV l).2.1 : Int), .int .i64 ((tokensV l).2.2 : Int)]) ∧ w'.ownsRow w0.heap.size 30 3 v (tokensV l).1.length (tkCells (tokensV l).1) ∧ Below w0.heap.size w0 w'

theorem TokV.bad {w0 w' : World} {l : List UInt8} {a e : Nat} (h : tokensV l = ([], a, e)) (hb : Below w0.heap.size w0 w') : TokV w0 l (.returned (.tuple #[.slice none 0 0, .int .i64 (a : Int), .int .i64 (e : Int)])) w' := by
  unfold TokV; rw [h]; exact ⟨_, rfl, ⟨rfl, .inl ⟨rfl, rfl⟩⟩, hb⟩
theorem lx_new {w w1 : World} (hb : Below w.heap.size w w1) (S : ByteArray) : LxV w w1.heap.size S ⟨0, [], [], 0⟩ (w1.alloc (.cells #[.string S, .int .i64 0, .slice none 0 0, .slice none 0 0, .int .i64 0] 36)) :=
  ⟨hb.alloc hb.size _, hb.size, .slice none 0 0, .slice none 0 0, World.alloc_heap_new w1 _, ⟨rfl, .inl ⟨rfl, rfl⟩⟩, ⟨rfl, .inl ⟨rfl, rfl⟩⟩⟩

theorem tokens_of_bad (l : List UInt8) (s : LS) (h0 : ¬ 100000 < l.length) (h1 : ¬ valid l < l.length) (h : runS l = s) (he : s.err ≠ 0) : tokensV l = ([], s.pos, s.err) := by
  unfold tokensV; rw [if_neg h0, if_neg h1, h, if_pos he]
theorem tokens_of_short (l : List UInt8) (s : LS) (h0 : ¬ 100000 < l.length) (h1 : ¬ valid l < l.length) (h : runS l = s) (he : s.err = 0) (ht : s.texts ≠ []) : tokensV l = ([], l.length, 5) := by
  unfold tokensV; rw [if_neg h0, if_neg h1, h, if_neg (fun h => h he), if_pos ht]
theorem tokens_of_ok (l : List UInt8) (s : LS) (h0 : ¬ 100000 < l.length) (h1 : ¬ valid l < l.length) (h : runS l = s) (he : s.err = 0) (ht : s.texts = []) : tokensV l = (s.toks, 0, 0) := by
  unfold tokensV; rw [if_neg h0, if_neg h1, h, if_neg (fun h => h he), if_neg (fun h => h ht)]

set_option maxHeartbeats 4000000 in
set_option maxRecDepth 100000 in
theorem lexTokens_any (S : ByteArray) (w : World) (hT : Tabs w) (hm : S.size ≤ maxLen) :
    Calls Tryd.prog 9 #[.string S] w (TokV w S.data.toList) := by
  unfold maxLen at hm
  have hL := Lib.size_eq S
  have HL := Lib.hid hL
  by_cases hbig : 100000 < S.size
  · have HB := Lib.hid (show tokensV S.data.toList = ([], 0, 10) by unfold tokensV; rw [if_pos (by rw [← hL]; exact hbig)])
    clear hL
    go_enter Tryd.func9, Tryd.ntmps9
    go_wp2
    go_ret3
    exact TokV.bad HB.out (Below.refl _ _)
  have kv := utfValid_any S w hT (by unfold maxLen; omega)
  have hvl : valid S.data.toList = valid S.data.toList := rfl
  by_cases hval : valid S.data.toList < S.size
  · have HB := Lib.hid (show tokensV S.data.toList = ([], valid S.data.toList, 7) by unfold tokensV; rw [if_neg (by rw [← hL]; exact hbig), if_pos (by rw [← hL]; exact hval)])
    clear hL hvl
    generalize valid S.data.toList = v at *
    have KV := Lib.hid (RetE.of kv)
    clear kv
    go_enter Tryd.func9, Tryd.ntmps9
    go_wp2_with (go_at_call 15; refine KV.out.mono ?_)
    rintro e w1 ⟨rfl, hb1⟩
    go_wp2
    go_ret3
    exact TokV.bad HB.out hb1
  have h0 : ¬ 100000 < S.data.toList.length := by rw [← hL]; exact hbig
  have h1 : ¬ valid S.data.toList < S.data.toList.length := by rw [← hL]; exact hval
  have hrun0 : runS S.data.toList = runF (S.data.toList.length + 1) S.data.toList ⟨0, [], [], 0⟩ := rfl
  have HBAD := Lib.hid (fun s => tokens_of_bad S.data.toList s h0 h1)
  have HSHO := Lib.hid (fun s => tokens_of_short S.data.toList s h0 h1)
  have HOK := Lib.hid (fun s => tokens_of_ok S.data.toList s h0 h1)
  have HR0 := Lib.hid hrun0
  have HT := Lib.hid hT
  clear hL hvl h0 h1 hrun0 hT
  generalize valid S.data.toList = v at *
  have KV := Lib.hid (RetE.of kv)
  clear kv
  go_enter Tryd.func9, Tryd.ntmps9
  go_wp2_with (go_at_call 15; refine KV.out.mono ?_)
  rintro e w1 ⟨rfl, hb1⟩
  have HLX := Lib.hid (lx_new hb1 S)
  have hg0 := hb1.size
  clear hb1
  have KSK := Lib.hid (fun (s : LS) (hp : s.pos ≤ S.size) (W : World) (h : LxV w w1.heap.size S s W) => RetE.of (lexSkip_any w w1.heap.size S s W hp (by omega) h))
  have KTO := Lib.hid (fun (s : LS) (hf : FineS s) (hp : s.pos < S.size) (W : World) (h : LxV w w1.heap.size S s W) => RetE.of (lexToken_any w HT.out w1.heap.size S s hf W hp (by omega) h))
  go_wp2_with (go_at_call 16; refine (KSK.out ⟨0, [], [], 0⟩ (Nat.zero_le _) _ HLX.out).mono ?_)
  rintro e w2 ⟨rfl, h2⟩
  have H2 := Lib.hid h2
  clear h2
  go_wp2
  go_loopw [] (fun wr => ∃ (s0 : LS) (f : Nat), s0.pos ≤ S.size ∧ s0.err = 0 ∧ FineS s0 ∧ S.size < f + s0.pos ∧ Hid (runS S.data.toList = runF f S.data.toList s0) ∧ LxV w w1.heap.size S (skipS S.data.toList s0) wr) (fun wr => S.size - lxPos w1.heap.size wr)
  case atStart => exact ⟨⟨0, [], [], 0⟩, S.size + 1, Nat.zero_le _, rfl, ⟨Nat.le_refl _, Nat.zero_le _, fun x h => by cases h⟩, by simp, Lib.hid (by rw [HR0.out, HL.out]), H2.out⟩
  case round =>
    obtain ⟨s0, f, hp0, he0, hf0, hfu, hrun, hv⟩ := hrel
    have hsp := skipS_pos S.data.toList s0 (by rw [← HL.out]; exact hp0)
    rw [← HL.out] at hsp
    have hfs := hf0.skip S.data.toList
    have hes : (skipS S.data.toList s0).err = 0 := he0
    obtain ⟨f', rfl⟩ : ∃ f', f = f' + 1 := ⟨f - 1, by omega⟩
    have hst := hrun.out.trans (runF_step f' S.data.toList s0)
    rw [← HL.out] at hst
    generalize skipS S.data.toList s0 = s at hsp hfs hes hst hv
    have HV := Lib.hid hv
    have c1 := hv.c1
    have c4 := hv.c4
    have hps := hv.pos_of
    rw [hes] at c4
    have HES := Lib.hid hes
    have HFS := Lib.hid hfs
    clear hrun hf0 he0 hes hfs
    by_cases hlt : s.pos < S.size
    · rw [if_neg (by omega)] at hst
      have hto := tokenS_pos S.data.toList s (by rw [← HL.out]; exact hlt)
      rw [← HL.out] at hto
      have hft := fun he => HFS.out.token S.data.toList he (by rw [← HL.out]; exact hlt)
      have KT := Lib.hid (KTO.out s HFS.out hlt wr hv)
      generalize tokenS S.data.toList s = s1 at hto hst hft KT
      have HST := Lib.hid hst
      have HTO := Lib.hid hto
      have HFT := Lib.hid hft
      clear hst hto hft hv
      go_wp2_with (go_at_call 17; refine KT.out.mono ?_)
      rintro e w3 ⟨rfl, h3⟩
      have H3 := Lib.hid h3
      have c41 := h3.c4
      have c11 := h3.c1
      clear h3
      by_cases hr : s1.err = 0
      · rw [hr] at c41
        have KS1 := Lib.hid (KSK.out s1 HTO.out.1 w3 H3.out)
        have HR := Lib.hid hr
        clear hr
        go_wp2_with (go_at_call 16; refine KS1.out.mono ?_)
        rintro e w4 ⟨rfl, h4⟩
        have hsp1 := skipS_pos S.data.toList s1 (by rw [← HL.out]; exact HTO.out.1)
        have hpo4 := h4.pos_of
        have H4 := Lib.hid h4
        have HP4 := Lib.hid hpo4
        have HPS := Lib.hid hps
        clear h4 hpo4 hps
        go_wp2
        go_roundw
        case rel => exact ⟨s1, f', HTO.out.1, HR.out, HFT.out HR.out, by have := HTO.out.2 HR.out; omega, Lib.hid (by rw [HST.out, if_neg (fun h => h HR.out)]), H4.out⟩
        case measure => rw [HP4.out, HPS.out]; have := HTO.out.2 HR.out; omega
      · have z1 : ((s1.err : Int) != 0) = true := by rw [bne_iff_ne]; omega
        have z2 : ((s1.err : Int) == 0) = false := beq_false_of_ne (by omega)
        have HF := Lib.hid (HBAD.out s1 (by rw [HST.out, if_pos hr]) hr)
        clear hr
        go_wp2
        go_quiet (fail)
        go_wp2
        go_ret3
        exact TokV.bad HF.out (H3.out.drewN _).1
    · rw [if_pos (by omega)] at hst
      have hlt' : decide ((s.pos : Int) < (S.size : Int)) = false := decide_eq_false (by omega)
      obtain ⟨tv, xv, _, c2, c3, ho, hx⟩ := hv.rows
      obtain ⟨A2, cap2, rfl⟩ := lowns_slice ho
      obtain ⟨A3, cap3, rfl⟩ := lowns_slice hx
      have HO := Lib.hid ho
      have HST := Lib.hid hst
      by_cases htx : s.texts = []
      · have HF := Lib.hid (HOK.out s hst HES.out htx)
        have hl0 : s.texts.length = 0 := by rw [htx]; rfl
        clear htx hst hv ho hx
        go_wp2
        go_ret3
        exact ⟨_, by rw [HF.out]; rfl, by rw [HF.out]; exact HO.out, HV.out.1⟩
      · have HF := Lib.hid (HSHO.out s hst HES.out htx)
        have hl0 : decide (0 < s.texts.length) = true := decide_eq_true (List.length_pos_iff.2 htx)
        have KFL := Lib.hid (fun (q c : Nat) => RetE.of (lexFail_any w w1.heap.size S s wr q c hv))
        clear htx hst hv ho hx
        go_wp2_with (go_at_call 18; refine (KFL.out S.size 5).mono ?_)
        rintro e w3 ⟨rfl, h3⟩
        have H3 := Lib.hid h3
        have c41 := h3.c4
        have c11 := h3.c1
        simp only [failS] at c41 c11
        clear h3
        go_wp2
        go_quiet (fail)
        go_wp2
        go_ret3
        exact TokV.bad (by rw [HF.out, ← HL.out]) (H3.out.drewN _).1

end Go.Proofs.YtnbfikfngekfoaaDoor

namespace Go.Proofs.YtnbfikfngekfoaaDoor
open Go.RowKit

theorem TokV.opened {w0 w' : World} {l : List UInt8} {e : Ending} {ks : List Tk} {a er : Nat} (h : TokV w0 l e w') (ht : tokensV l = (ks, a, er)) :
    ∃ A cap, e = .returned (.tuple #[.slice A ks.length cap, .int .i64 (a : Int), .int .i64 (er : Int)]) ∧ w'.ownsRow w0.heap.size 30 3 (.slice A ks.length cap) ks.length (tkCells ks) ∧ Below w0.heap.size w0 w' := by
  unfold TokV at h
  rw [ht] at h
  obtain ⟨v, h1, h2, h3⟩ := h
  obtain ⟨A, cap, rfl⟩ := lowns_slice h2
  exact ⟨A, cap, h1, h2, h3⟩
theorem tkCells_len (l : List Tk) : (tkCells l).length = l.length * 3 := by
  unfold tkCells
  induction l with
  | nil => rfl
  | cons a r ih => rw [List.flatMap_cons, List.length_append, ih, List.length_cons]; simp; omega
theorem tkCells_at : ∀ (l : List Tk) (i : Nat) (k : Tk), l[i]? = some k → (tkCells l)[i * 3]? = some (.int .i64 (k.kind : Int)) ∧ (tkCells l)[i * 3 + 1]? = some (.string ⟨k.text.toArray⟩) ∧ (tkCells l)[i * 3 + 2]? = some (.int .i64 (k.pos : Int))
  | [], i, k, h => by simp at h
  | a :: r, 0, k, h => by
    obtain rfl : a = k := by simpa using h
    exact ⟨rfl, rfl, rfl⟩
  | a :: r, i + 1, k, h => by
    obtain ⟨h1, h2, h3⟩ := tkCells_at r i k (by simpa using h)
    have e : ∀ j, (tkCells (a :: r))[(i + 1) * 3 + j]? = (tkCells r)[i * 3 + j]? := fun j => by
      show ([Value.int .i64 (a.kind : Int), .string ⟨a.text.toArray⟩, .int .i64 (a.pos : Int)] ++ tkCells r)[(i + 1) * 3 + j]? = _
      rw [List.getElem?_append_right (by simp; omega)]
      congr 1
      simp; omega
    have e0 := e 0
    rw [Nat.add_zero, Nat.add_zero] at e0
    rw [e0, e 1, e 2]
    exact ⟨h1, h2, h3⟩
/-- a token of a row -/
theorem tk_at {w : World} {B q n cap : Nat} {ks : List Tk} (h : w.ownsRow B 30 3 (.slice (some ⟨q, 0, none⟩) n cap) n (tkCells ks)) (i : Nat) (k : Tk) (hi : ks[i]? = some k) :
    w.cell? ⟨q, i * 3, none⟩ = some (.int .i64 (k.kind : Int)) ∧ w.cell? ⟨q, i * 3 + 1, none⟩ = some (.string ⟨k.text.toArray⟩) ∧ w.cell? ⟨q, i * 3 + 2, none⟩ = some (.int .i64 (k.pos : Int)) := by
  have hl : n = ks.length := by have := h.1; rw [tkCells_len] at this; omega
  have hlt : i < ks.length := (List.getElem?_eq_some_iff.1 hi).1
  obtain ⟨h1, h2, h3⟩ := tkCells_at ks i k hi
  rw [h.cellAt _ (by omega), h.cellAt _ (by omega), h.cellAt _ (by omega)]
  exact ⟨h1, h2, h3⟩
theorem tk_block {w : World} {B n cap : Nat} {A : Option Addr} {ks : List Tk} (h : w.ownsRow B 30 3 (.slice A n cap) n (tkCells ks)) (hn : 0 < n) : ∃ q, A = some ⟨q, 0, none⟩ ∧ B ≤ q ∧ q < w.heap.size := by
  rcases h.2 with ⟨hv, h0⟩ | ⟨q, c, cur, hv, hq, hh, _⟩
  · omega
  · injection hv with e1 _ _
    exact ⟨q, e1, hq, (Array.getElem?_eq_some_iff.1 hh).1⟩

def shL1 : List UInt8 := [46, 97, 124, 34, 120, 92, 40, 49, 41, 121, 34]
theorem sh_one : tokensV [46, 97, 124, 34, 120, 92, 40, 49, 41, 121, 34] = ([⟨3, [97], 0⟩, ⟨6, [124], 2⟩, ⟨7, [], 3⟩, ⟨8, [120], 4⟩, ⟨9, [], 5⟩, ⟨1, [49], 7⟩, ⟨10, [], 8⟩, ⟨8, [121], 9⟩, ⟨11, [], 10⟩], 0, 0) := by decide +kernel
theorem sh_two : tokensV [36] = ([], 0, 2) := by decide +kernel
theorem sh_three : tokensV [34, 97] = ([], 2, 5) := by decide +kernel

set_option maxHeartbeats 4000000 in
set_option maxRecDepth 100000 in
theorem lexShown_any (w : World) (hT : Tabs w) :
    Calls Tryd.prog 7 #[] w fun e w' => e = .returned (.bool true) ∧ Below w.heap.size w w' := by
  have k1 := lexTokens_any ⟨#[46, 97, 124, 34, 120, 92, 40, 49, 41, 121, 34]⟩ w hT (by decide)
  have k2 := fun W h => lexTokens_any ⟨#[36]⟩ W h (by decide)
  have k3 := fun W h => lexTokens_any ⟨#[34, 97]⟩ W h (by decide)
  have K1 := Lib.hid k1
  have K2 := Lib.hid k2
  have K3 := Lib.hid k3
  have HT := Lib.hid hT
  clear k1 k2 k3 hT
  go_enter Tryd.func7, Tryd.ntmps7
  go_wp2_with (go_at_call 9; refine K1.out.mono ?_)
  intro e w1 h1
  obtain ⟨A, cap, rfl, ho, hb1⟩ := h1.opened sh_one
  obtain ⟨q, rfl, hq0, hq1⟩ := tk_block ho (by decide)
  have HO := Lib.hid ho
  have HB1 := Lib.hid hb1
  clear h1 ho hb1
  go_wp2_with (go_at_call 9; refine (K2.out _ (HT.out.below HB1.out (Nat.le_refl _))).mono ?_)
  intro e w2 h2
  obtain ⟨A2, cap2, rfl, _, hb2⟩ := h2.opened sh_two
  have HB2 := Lib.hid hb2
  have HB12 := Lib.hid (HB1.out.trans (hb2.mono HB1.out.size))
  clear h2 hb2
  go_wp2_with (go_at_call 9; refine (K3.out _ (HT.out.below HB12.out (Nat.le_refl _))).mono ?_)
  intro e w3 h3
  obtain ⟨A3, cap3, rfl, _, hb3⟩ := h3.opened sh_three
  have HB13 := Lib.hid (HB12.out.trans (hb3.mono HB12.out.size))
  have hs2 := HB2.out.size
  have hcell : ∀ k, w3.cell? ⟨q, k, none⟩ = w1.cell? ⟨q, k, none⟩ := fun k => (hb3.cell (p := ⟨q, k, none⟩) (by show q < _; omega)).trans (HB2.out.cell (p := ⟨q, k, none⟩) hq1)
  have hat := fun i k hi => tk_at HO.out i k hi
  obtain ⟨a0, a1, a2⟩ := hat 0 _ rfl
  obtain ⟨b0, b1, b2⟩ := hat 3 _ rfl
  obtain ⟨c0, c1, c2⟩ := hat 5 _ rfl
  obtain ⟨d0, d1, d2⟩ := hat 8 _ rfl
  rw [← hcell] at a0 a1 a2 b0 b1 b2 c0 c1 c2 d0 d1 d2
  simp only [Nat.reduceMul, Nat.reduceAdd, Nat.zero_mul, Nat.zero_add] at a0 a1 a2 b0 b1 b2 c0 c1 c2 d0 d1 d2
  clear h3 hb3 hcell hat hs2
  go_wp2
  go_ret
  exact ⟨rfl, HB13.out⟩

set_option maxHeartbeats 400000 in
theorem lexGreat_any (s : ByteArray) (w : World) :
    Calls Tryd.prog 8 #[.string s] w fun e w' => e = .returned (.bool (decide (3000 < s.size ∧ s.size ≤ 100000))) ∧ w = w' := by
  by_cases h1 : 3000 < s.size
  · by_cases h2 : s.size ≤ 100000
    · have h1' : decide ((3000 : Int) < (s.size : Int)) = true := decide_eq_true (by omega)
      have h2' : decide ((s.size : Int) ≤ (100000 : Int)) = true := decide_eq_true (by omega)
      go_enter Tryd.func8, Tryd.ntmps8
      go_wp2_with fail
      go_ret
      exact ⟨by rw [decide_eq_true (⟨h1, h2⟩ : 3000 < s.size ∧ s.size ≤ 100000)]; rfl, rfl⟩
    · have h1' : decide ((3000 : Int) < (s.size : Int)) = true := decide_eq_true (by omega)
      have h2' : decide ((s.size : Int) ≤ (100000 : Int)) = false := decide_eq_false (by omega)
      go_enter Tryd.func8, Tryd.ntmps8
      go_wp2_with fail
      go_ret
      exact ⟨by rw [decide_eq_false (fun h : 3000 < s.size ∧ s.size ≤ 100000 => h2 h.2)]; rfl, rfl⟩
  · have h1' : decide ((3000 : Int) < (s.size : Int)) = false := decide_eq_false (by omega)
    go_enter Tryd.func8, Tryd.ntmps8
    go_wp2_with fail
    go_ret
    exact ⟨by rw [decide_eq_false (fun h : 3000 < s.size ∧ s.size ≤ 100000 => h1 h.1)]; rfl, rfl⟩

end Go.Proofs.YtnbfikfngekfoaaDoor
