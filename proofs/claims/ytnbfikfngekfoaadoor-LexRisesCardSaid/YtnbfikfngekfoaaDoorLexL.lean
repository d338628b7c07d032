/-
  The walk of the reader's token (chapter 14).
-/
import Derived.Test.YtnbfikfngekfoaaDoorLexJ
import Derived.Test.YtnbfikfngekfoaaDoorLexP
namespace Go.Proofs.YtnbfikfngekfoaaDoor
open Go.RowKit

theorem infoInt : (Tryd.prog.info? 3).map (fun i => (i.zero, i.size, i.bytes)) = some (some (.int .i64 0), 1, 8) := by kernel_rfl
/-- a text more is open -/
theorem LxV.grows_texts {w0 w : World} {g : Nat} {S : ByteArray} {s : LS} (h : LxV w0 g S s w) {xv : Value} (hxv : w.cell? ⟨g, 3, none⟩ = some xv) {o : Obj} {w5 : World} (hg : (w.alloc o).grownBy w5 xv.ownBlock) :
    w5.cell? ⟨g, 3, none⟩ = some xv ∧ w5.frozen? ⟨g, 3, none⟩ = false ∧ ∀ (v5 : Value) (n : Nat), w5.ownsRow w0.heap.size 3 1 v5 (s.texts.length + 1) (txCells s.texts ++ [Value.int .i64 (n : Int)]) →
      LxV w0 g S { s with texts := n :: s.texts } (w5.setCell ⟨g, 3, none⟩ v5) := by
  obtain ⟨hb, h2, tv, xv', hh, ho, hx⟩ := h
  have e : xv' = xv := by rw [Lib.cell_of_heap hh] at hxv; exact Option.some.inj hxv
  subst e
  have hlt : g < w.heap.size := (Array.getElem?_eq_some_iff.1 hh).1
  have hblk : ∀ k, xv'.ownBlock = some k → w0.heap.size ≤ k ∧ k < w.heap.size ∧ ∃ c z, w.heap[k]? = some (.cells c 3 z) := fun k hk => by
    rcases hx.2 with ⟨hv, _⟩ | ⟨q, cap', cur, hv, hg2, hh2, _⟩
    · rw [hv] at hk; cases hk
    · rw [hv] at hk
      have e : q = k := by simpa [Value.ownBlock] using hk
      subst e
      exact ⟨hg2, (Array.getElem?_eq_some_iff.1 hh2).1, _, _, hh2⟩
  have hal : (w.alloc o).heap[g]? = some (.cells #[.string S, .int .i64 (s.pos : Int), tv, xv', .int .i64 (s.err : Int)] 36 (0, 0)) := (Below.heap_alloc w o g hlt).trans hh
  have h5 : w5.heap[g]? = some (.cells #[.string S, .int .i64 (s.pos : Int), tv, xv', .int .i64 (s.err : Int)] 36 (0, 0)) := by
    rw [hg.block g (Array.getElem?_eq_some_iff.1 hal).1 (fun e => ?_)]
    · exact hal
    · obtain ⟨_, _, c, z, h3⟩ := hblk g e.symm
      rw [hh] at h3; injection h3 with h3; injection h3 with _ h3 _; exact absurd h3 (by decide)
  have hb5 : Below w0.heap.size w0 w5 := (hb.alloc hb.size o).grown hg (by rw [World.size_alloc]; have := hb.size; exact Nat.le_succ_of_le this) (fun k hk => (hblk k hk).1)
  have ht5 : w5.ownsRow w0.heap.size 30 3 tv s.toks.length (tkCells s.toks) := by
    refine lowns_grown (lowns_below ho ((Below.refl _ w).alloc (Nat.le_refl _) o)) hg (fun k hk => .inr ?_)
    obtain ⟨_, hlt2, c, z, h3⟩ := hblk k hk
    exact ⟨c, _, z, (Below.heap_alloc w o k hlt2).trans h3, by decide⟩
  refine ⟨by rw [Lib.cell_of_heap h5]; rfl, Lib.frozen_of_heap h5 3, fun v5 n ho5 => ?_⟩
  rw [← txCells_cons] at ho5
  exact ⟨hb5.setCell (p := ⟨g, 3, none⟩) h2 _, h2, tv, v5, lheap_set h5 v5, lowns_far ht5 h5 (by decide) _, lowns_far ho5 h5 (by decide) _⟩

theorem news1 (W : World) (a : Value) (T : TypeId) : ∀ (j : Nat) (u : Value), [a][j]? = some u → (W.alloc (.cells #[a] T)).cell? ((⟨W.heap.size, 0, none⟩ : Addr).add j) = some u := fun j u h => by
  have hadd : (⟨W.heap.size, 0, none⟩ : Addr).add j = ⟨W.heap.size, 0 + j, none⟩ := by unfold Addr.add; split <;> simp_all
  rw [hadd, Nat.zero_add]
  refine (World.cell?_alloc_at (w := W) _ _ _ _ rfl).trans ?_
  simpa using h
theorem tokenS_of (l : List UInt8) (s : LS) (r : List UInt8) (h : l.drop s.pos = r) : tokenS l s =
    if bt r 0 = 34 then (if 50 ≤ s.texts.length then failS s s.pos 6 else textS l { putS s 7 [] 1 with texts := 0 :: s.texts })
    else if digB (bt r 0) then putS s 1 (r.take (numN r)) (numN r)
    else if letB (bt r 0) then putS s 2 (r.take (nameN r)) (nameN r)
    else if bt r 0 = 36 then markS l s 4 []
    else if bt r 0 = 64 then markS l s 5 [64]
    else if bt r 0 = 46 ∧ letB (bt r 1) then markS l s 3 []
    else signS l s (signL r) := by subst h; rfl
theorem str_take (R : ByteArray) (x : List UInt8) (h : R.data.toList = x) (n : Nat) : R.extract 0 n = ⟨(x.take n).toArray⟩ := ba_ext (by rw [take_ext, h])

set_option maxHeartbeats 4000000 in
set_option maxRecDepth 100000 in
theorem lexToken_any (w0 : World) (hT : Tabs w0) (g : Nat) (S : ByteArray) (s : LS) (hf : FineS s) (w : World) (hp : s.pos < S.size) (hS : S.size ≤ 8388608) (h : LxV w0 g S s w) :
    Calls Tryd.prog 17 #[.pointer (some ⟨g, 0, none⟩)] w fun e w' => e = .returned (.tuple #[]) ∧ LxV w0 g S (tokenS S.data.toList s) w' := by
  obtain ⟨f1, f2, f3⟩ := hf
  have hl := h.size
  have c0 := h.c0
  have c1 := h.c1
  obtain ⟨R, hR⟩ : ∃ R, S.extract s.pos S.size = R := ⟨_, rfl⟩
  obtain ⟨x, hx⟩ : ∃ x, S.data.toList.drop s.pos = x := ⟨_, rfl⟩
  have hRx : R.data.toList = x := by rw [← hR, ← hx]; exact ext_drop S s.pos
  have hRs : R.size = S.size - s.pos := by rw [Lib.size_eq, hRx, ← hx, List.length_drop, ← Lib.size_eq]
  have hR0 : 0 < R.size := by omega
  have hb : R[0].toNat = bt x 0 := by rw [← hRx]; exact (bt_s R 0 hR0).symm
  have hlet0 := lexLetter_any R[0].toNat (UInt8.toNat_lt _)
  have hdig0 := lexDigit_any R[0].toNat
  have hlet : ∀ W, Calls Tryd.prog 29 #[.int .u8 (R[0].toNat : Int)] W fun e w' => e = .returned (.bool (letB (bt x 0))) ∧ W = w' := fun W => by rw [← hb]; exact hlet0 W
  have hdig : ∀ W, Calls Tryd.prog 27 #[.int .u8 (R[0].toNat : Int)] W fun e w' => e = .returned (.bool (digB (bt x 0))) ∧ W = w' := fun W => by rw [← hb]; exact hdig0 W
  clear hlet0 hdig0
  have htok := tokenS_of S.data.toList s x hx
  have KF := Lib.hid (fun (q : Nat) (W : World) (h : LxV w0 g S s W) => RetE.of (lexFail_any w0 g S s W s.pos q h))
  have kput : ∀ (k : Nat) (t : List UInt8) (n : Nat) (_ : n ≤ S.size) (W : World), LxV w0 g S s W → Calls Tryd.prog 25 #[.pointer (some ⟨g, 0, none⟩), .int .i64 (k : Int), .string ⟨t.toArray⟩, .int .i64 (n : Int)] W (RetE (.tuple #[]) (LxV w0 g S (putS s k t n))) :=
    fun k t n hn W h => RetE.of (lexPut_any w0 g S s W k t n (by omega) (by omega) (by omega) h)
  have kmark : ∀ (k : Nat) (keep : List UInt8) (_ : keep.length ≤ 1) (W : World), LxV w0 g S s W → Calls Tryd.prog 30 #[.pointer (some ⟨g, 0, none⟩), .int .i64 (k : Int), .string ⟨keep.toArray⟩] W (RetE (.tuple #[]) (LxV w0 g S (markS S.data.toList s k keep))) :=
    fun k keep hk W h => RetE.of (lexMarked_any w0 g S s W k keep hk hp (by omega) (by omega) h)
  have H := Lib.hid h
  by_cases a1 : bt x 0 = 34
  · rw [if_pos a1] at htok
    have z1 : ((R[0].toNat : Int) == 34) = true := by rw [hb, a1]; rfl
    obtain ⟨tv, xv, _, _, c3, _, hxo⟩ := h.rows
    obtain ⟨A3, cap3, rfl⟩ := lowns_slice hxo
    by_cases a2 : 50 ≤ s.texts.length
    · rw [if_pos a2] at htok
      have HTOK := Lib.hid htok
      clear htok hb a1 hx hRx kput kmark h hlet hdig f3 hxo
      go_enter Tryd.func17, Tryd.ntmps17
      go_wp2
      go_quiet (fail)
      go_wp2_with (go_at_call 18; refine (KF.out 6 _ (H.out.drewN _)).mono ?_)
      rintro e w1 ⟨rfl, h1⟩
      go_wp2
      go_returns
      exact ⟨rfl, by rw [HTOK.out]; exact h1⟩
    · rw [if_neg a2] at htok
      have HTOK := Lib.hid htok
      have KP := Lib.hid (kput 7 [] 1 (by omega))
      clear htok hb a1 hx hRx kput kmark h hlet hdig f3 hxo
      go_enter Tryd.func17, Tryd.ntmps17
      go_wp2
      go_quiet (fail)
      go_wp2_with (go_at_call 25; refine (KP.out _ (H.out.drewN _)).mono ?_)
      rintro e w1 ⟨rfl, h1⟩
      obtain ⟨tv1, xv1, _, _, c31, _, hxo1⟩ := h1.rows
      obtain ⟨i0, hi, hz0, hz1, hz2⟩ := info_parts infoInt
      have g31 := h1.frozen 3
      have H1 := Lib.hid h1
      have HXO := Lib.hid hxo1
      have hs1 := h1.size
      have C31 := Lib.hid c31
      have hl7 : (putS s 7 [] 1).texts = s.texts := rfl
      have hln : (putS s 7 [] 1).texts.length ≤ 50 := f2
      clear h1 hxo1
      go_wp2_with (at_builtin; refine wpList_append_own _ rfl _ _ 28 rfl w0.heap.size 3 i0 (.int .i64 0) 1 8 Tryd.underlying28 hi hz0 hz1 hz2 rfl (by decide) _ _ _ rfl (HXO.out.alloc _) ⟨w1.heap.size, 0, none⟩ 1 1 [.int .i64 ((0 : Nat) : Int)] rfl rfl ?c1 ?c2 ?c3 ?c4 ?c5 ?_)
      case c1 => exact news1 w1 _ _
      case c2 => simp [Value.oneCell']
      case c3 => unfold maxLen; omega
      case c4 => omega
      case c5 => simp; omega
      intro v5 w5 hown5 hgrow5 _
      obtain ⟨e6, e7, e8⟩ := H1.out.grows_texts C31.out hgrow5
      have E8 := Lib.hid (e8 v5 0 hown5)
      clear e8
      obtain ⟨A5, cap5, rfl⟩ := lowns_slice hown5
      have KT := Lib.hid (fun (W : World) (h : LxV w0 g S { putS s 7 [] 1 with texts := 0 :: s.texts } W) => RetE.of (lexText_any w0 hT g S { putS s 7 [] 1 with texts := 0 :: s.texts } 0 s.texts rfl (by omega) W (by simp only [putS]; omega) (by omega) (by simp only [putS, List.length_append, List.length_singleton]; omega) h))
      go_wp2_with (go_at_call 26; refine (KT.out _ E8.out).mono ?_)
      rintro e w6 ⟨rfl, h6⟩
      go_wp2
      go_returns
      exact ⟨rfl, by rw [HTOK.out]; exact h6⟩
  rw [if_neg a1] at htok
  have z1 : ((R[0].toNat : Int) == 34) = false := by rw [hb]; exact beq_false_of_ne (by omega)
  by_cases a2 : digB (bt x 0) = true
  · rw [if_pos a2] at htok
    have KD := Lib.hid (fun W => (RetE.of (hdig W)).mono (R' := RetE (.bool true) (fun w' => W = w')) (by rintro e w' ⟨rfl, h⟩; exact ⟨by rw [a2], h⟩))
    have hnl := (numN_le x).2
    have hxl : x.length = R.size := by rw [← hRx, Lib.size_eq]
    have knum := fun W => lexNumber_any R W (by omega)
    rw [hRx] at knum
    have hcut := str_take R x hRx (numN x)
    have hTs : (⟨(x.take (numN x)).toArray⟩ : ByteArray).size = numN x := by show (x.take (numN x)).length = _; rw [List.length_take, Nat.min_eq_left hnl]
    have KP := kput 1 (x.take (numN x)) (numN x) (by omega)
    simp only [hcut] at knum
    have HTOK := Lib.hid htok
    clear htok hcut
    generalize (⟨(x.take (numN x)).toArray⟩ : ByteArray) = T at knum hTs KP
    generalize hnn : numN x = n at *
    clear hnn
    have KN := Lib.hid (fun W => RetE.of (knum W))
    replace KP := Lib.hid KP
    clear knum hnl hxl a1 a2 hx hRx kput kmark h hlet hdig f3 hb
    go_enter Tryd.func17, Tryd.ntmps17
    go_wp2
    go_quiet (fail)
    go_wp2_with (go_at_call 27; refine (KD.out _).mono ?_)
    rintro e w1 ⟨rfl, rfl⟩
    go_wp2_with (go_at_call 28; refine (KN.out _).mono ?_)
    rintro e w1 ⟨rfl, rfl⟩
    go_wp2_with (go_at_call 25; refine (KP.out _ (H.out.drewN _)).mono ?_)
    rintro e w1 ⟨rfl, h1⟩
    go_wp2
    go_returns
    exact ⟨rfl, by rw [HTOK.out]; exact h1⟩
  rw [if_neg a2] at htok
  have a2f : digB (bt x 0) = false := by simpa using a2
  have KD := Lib.hid (fun W => (RetE.of (hdig W)).mono (R' := RetE (.bool false) (fun w' => W = w')) (by rintro e w' ⟨rfl, h⟩; exact ⟨by rw [a2f], h⟩))
  by_cases a3 : letB (bt x 0) = true
  · rw [if_pos a3] at htok
    have KL := Lib.hid (fun W => (RetE.of (hlet W)).mono (R' := RetE (.bool true) (fun w' => W = w')) (by rintro e w' ⟨rfl, h⟩; exact ⟨by rw [a3], h⟩))
    have hnl := nameN_le x
    have hxl : x.length = R.size := by rw [← hRx, Lib.size_eq]
    have knum := fun W => lexname_any R W (by omega)
    rw [hRx] at knum
    have hcut := str_take R x hRx (nameN x)
    have hTs : (⟨(x.take (nameN x)).toArray⟩ : ByteArray).size = nameN x := by show (x.take (nameN x)).length = _; rw [List.length_take, Nat.min_eq_left hnl]
    have KP := kput 2 (x.take (nameN x)) (nameN x) (by omega)
    simp only [hcut] at knum
    have HTOK := Lib.hid htok
    clear htok hcut
    generalize (⟨(x.take (nameN x)).toArray⟩ : ByteArray) = T at knum hTs KP
    generalize hnn : nameN x = n at *
    clear hnn
    have KN := Lib.hid (fun W => RetE.of (knum W))
    replace KP := Lib.hid KP
    clear knum hnl hxl a1 a2 a2f a3 hx hRx kput kmark h hlet hdig f3 hb
    go_enter Tryd.func17, Tryd.ntmps17
    go_wp2
    go_quiet (fail)
    go_wp2_with (go_at_call 27; refine (KD.out _).mono ?_)
    rintro e w1 ⟨rfl, rfl⟩
    go_wp2_with (go_at_call 29; refine (KL.out _).mono ?_)
    rintro e w1 ⟨rfl, rfl⟩
    go_wp2_with (go_at_call 19; refine (KN.out _).mono ?_)
    rintro e w1 ⟨rfl, rfl⟩
    go_wp2_with (go_at_call 25; refine (KP.out _ (H.out.drewN _)).mono ?_)
    rintro e w1 ⟨rfl, h1⟩
    go_wp2
    go_returns
    exact ⟨rfl, by rw [HTOK.out]; exact h1⟩
  rw [if_neg a3] at htok
  have a3f : letB (bt x 0) = false := by simpa using a3
  have KL := Lib.hid (fun W => (RetE.of (hlet W)).mono (R' := RetE (.bool false) (fun w' => W = w')) (by rintro e w' ⟨rfl, h⟩; exact ⟨by rw [a3f], h⟩))
  by_cases a4 : bt x 0 = 36
  · rw [if_pos a4] at htok
    have z2 : ((R[0].toNat : Int) == 36) = true := by rw [hb, a4]; rfl
    have KM := Lib.hid (kmark 4 [] (by simp))
    have HTOK := Lib.hid htok
    clear htok a1 a2 a2f a3 a3f a4  hx hRx kput kmark h hlet hdig f3 hb
    go_enter Tryd.func17, Tryd.ntmps17
    go_wp2
    go_quiet (fail)
    go_wp2_with (go_at_call 27; refine (KD.out _).mono ?_)
    rintro e w1 ⟨rfl, rfl⟩
    go_wp2_with (go_at_call 29; refine (KL.out _).mono ?_)
    rintro e w1 ⟨rfl, rfl⟩
    go_wp2_with (go_at_call 30; refine (KM.out _ (H.out.drewN _)).mono ?_)
    rintro e w1 ⟨rfl, h1⟩
    go_wp2
    go_returns
    exact ⟨rfl, by rw [HTOK.out]; exact h1⟩
  rw [if_neg a4] at htok
  have ya4 : ((R[0].toNat : Int) == 36) = false := by rw [hb]; exact beq_false_of_ne (by omega)
  by_cases a5 : bt x 0 = 64
  · rw [if_pos a5] at htok
    have z2 : ((R[0].toNat : Int) == 64) = true := by rw [hb, a5]; rfl
    have KM := Lib.hid (kmark 5 [64] (by simp))
    have HTOK := Lib.hid htok
    clear htok a1 a2 a2f a3 a3f a5  hx hRx kput kmark h hlet hdig f3 hb
    go_enter Tryd.func17, Tryd.ntmps17
    go_wp2
    go_quiet (fail)
    go_wp2_with (go_at_call 27; refine (KD.out _).mono ?_)
    rintro e w1 ⟨rfl, rfl⟩
    go_wp2_with (go_at_call 29; refine (KL.out _).mono ?_)
    rintro e w1 ⟨rfl, rfl⟩
    go_wp2_with (go_at_call 30; refine (KM.out _ (H.out.drewN _)).mono ?_)
    rintro e w1 ⟨rfl, h1⟩
    go_wp2
    go_returns
    exact ⟨rfl, by rw [HTOK.out]; exact h1⟩
  rw [if_neg a5] at htok
  have ya5 : ((R[0].toNat : Int) == 64) = false := by rw [hb]; exact beq_false_of_ne (by omega)
  have KS0 := fun W => RetE.of (lexsign_any R W hR0 (by omega))
  rw [hRx] at KS0
  have KS := Lib.hid KS0
  have hsl := signL_form x
  have hs3 : (signL x).length ≤ 3 := by
    by_cases e : signL x = []
    · rw [e]; exact Nat.zero_le _
    · rcases hsl e with h2 | ⟨c, h2, _⟩
      · exact (by decide : ∀ y ∈ signs2, y.length ≤ 3) _ h2
      · rw [h2]; simp
  have KM := Lib.hid (fun (W : World) (h : LxV w0 g S s W) => RetE.of (lexSignM_any w0 hT g S s (by omega) (fun y hy => by have := f3 y hy; omega) (signL x) hs3 W hp (by omega) (by omega) h))
  have k1 : 1 < R.size → ∀ W, Calls Tryd.prog 29 #[.int .u8 (R[1]!.toNat : Int)] W (RetE (.bool (letB (bt x 1))) (fun w' => W = w')) := fun h1 W => by
    have := lexLetter_any R[1]!.toNat (UInt8.toNat_lt _) W
    rw [getElem!_pos R 1 h1, ← bt_s R 1 h1, hRx] at this
    rw [getElem!_pos R 1 h1, ← bt_s R 1 h1, hRx]
    exact RetE.of this
  clear hsl KS0
  generalize signL x = T at *
  by_cases a6 : bt x 0 = 46
  · have z6 : ((R[0].toNat : Int) == 46) = true := by rw [hb, a6]; rfl
    by_cases a7 : 1 < R.size
    · have z7 : decide ((1 : Int) < (R.size : Int)) = true := decide_eq_true (by omega)
      have k1 := k1 a7
      rw [getElem!_pos R 1 a7] at k1
      by_cases a8 : letB (bt x 1) = true
      · rw [if_pos ⟨a6, a8⟩] at htok
        rw [a8] at k1
        have K1 := Lib.hid k1
        have KM := Lib.hid (kmark 3 [] (by simp))
        have HTOK := Lib.hid htok
        clear htok a1 a2 a2f a3 a3f a4 a5 a6 a8 hx hRx kput kmark h hlet hdig f3 hb k1 hs3
        go_enter Tryd.func17, Tryd.ntmps17
        go_wp2
        go_quiet (fail)
        go_wp2_with (go_at_call 27; refine (KD.out _).mono ?_)
        rintro e w1 ⟨rfl, rfl⟩
        go_wp2_with (go_at_call 29; refine (KL.out _).mono ?_)
        rintro e w1 ⟨rfl, rfl⟩
        go_wp2_with (go_at_call 29; refine (K1.out _).mono ?_)
        rintro e w1 ⟨rfl, rfl⟩
        go_wp2_with (go_at_call 30; refine (KM.out _ (H.out.drewN _)).mono ?_)
        rintro e w1 ⟨rfl, h1⟩
        go_wp2
        go_returns
        exact ⟨rfl, by rw [HTOK.out]; exact h1⟩
      · rw [if_neg (fun h => a8 h.2)] at htok
        have a8f : letB (bt x 1) = false := by simpa using a8
        rw [a8f] at k1
        have K1 := Lib.hid k1
        have HTOK := Lib.hid htok
        clear htok a1 a2 a2f a3 a3f a4 a5 a6 a8 a8f hx hRx kput kmark h hlet hdig f3 hb k1 hs3
        go_enter Tryd.func17, Tryd.ntmps17
        go_wp2
        go_quiet (fail)
        go_wp2_with (go_at_call 27; refine (KD.out _).mono ?_)
        rintro e w1 ⟨rfl, rfl⟩
        go_wp2_with (go_at_call 29; refine (KL.out _).mono ?_)
        rintro e w1 ⟨rfl, rfl⟩
        go_wp2_with (go_at_call 29; refine (K1.out _).mono ?_)
        rintro e w1 ⟨rfl, rfl⟩
        go_wp2_with (go_at_call 32; refine (KS.out _).mono ?_)
        rintro e w1 ⟨rfl, rfl⟩
        go_wp2_with (go_at_call 31; refine (KM.out _ (H.out.drewN _)).mono ?_)
        rintro e w1 ⟨rfl, h1⟩
        go_wp2
        go_returns
        exact ⟨rfl, by rw [HTOK.out]; exact h1⟩
    · have z7 : decide ((1 : Int) < (R.size : Int)) = false := decide_eq_false (by omega)
      have a8f : letB (bt x 1) = false := by rw [← hRx, bt_e R 1 (by omega)]; rfl
      rw [if_neg (fun h => by rw [a8f] at h; cases h.2)] at htok
      have HTOK := Lib.hid htok
      clear htok a1 a2 a2f a3 a3f a4 a5 a6 a8f hx hRx kput kmark h hlet hdig f3 hb k1 hs3
      go_enter Tryd.func17, Tryd.ntmps17
      go_wp2
      go_quiet (fail)
      go_wp2_with (go_at_call 27; refine (KD.out _).mono ?_)
      rintro e w1 ⟨rfl, rfl⟩
      go_wp2_with (go_at_call 29; refine (KL.out _).mono ?_)
      rintro e w1 ⟨rfl, rfl⟩
      go_wp2_with (go_at_call 32; refine (KS.out _).mono ?_)
      rintro e w1 ⟨rfl, rfl⟩
      go_wp2_with (go_at_call 31; refine (KM.out _ (H.out.drewN _)).mono ?_)
      rintro e w1 ⟨rfl, h1⟩
      go_wp2
      go_returns
      exact ⟨rfl, by rw [HTOK.out]; exact h1⟩
  · have z6 : ((R[0].toNat : Int) == 46) = false := by rw [hb]; exact beq_false_of_ne (by omega)
    rw [if_neg (fun h => a6 h.1)] at htok
    have HTOK := Lib.hid htok
    clear htok a1 a2 a2f a3 a3f a4 a5 a6 hx hRx kput kmark h hlet hdig f3 hb k1 hs3
    go_enter Tryd.func17, Tryd.ntmps17
    go_wp2
    go_quiet (fail)
    go_wp2_with (go_at_call 27; refine (KD.out _).mono ?_)
    rintro e w1 ⟨rfl, rfl⟩
    go_wp2_with (go_at_call 29; refine (KL.out _).mono ?_)
    rintro e w1 ⟨rfl, rfl⟩
    go_wp2_with (go_at_call 32; refine (KS.out _).mono ?_)
    rintro e w1 ⟨rfl, rfl⟩
    go_wp2_with (go_at_call 31; refine (KM.out _ (H.out.drewN _)).mono ?_)
    rintro e w1 ⟨rfl, h1⟩
    go_wp2
    go_returns
    exact ⟨rfl, by rw [HTOK.out]; exact h1⟩

end Go.Proofs.YtnbfikfngekfoaaDoor
