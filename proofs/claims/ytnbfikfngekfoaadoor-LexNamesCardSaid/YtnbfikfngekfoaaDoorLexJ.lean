/-
  The walk of the reader's sign (chapter 14).
-/
import Derived.Test.YtnbfikfngekfoaaDoorLexI
namespace Go.Proofs.YtnbfikfngekfoaaDoor
open Go.RowKit

section
variable {w0 w : World} {g : Nat} {S : ByteArray} {s : LS}
theorem txCells_length (l : List Nat) : (txCells l).length = l.length := by unfold txCells; simp
theorem LxV.top (h : LxV w0 g S s w) {x : Nat} {ts : List Nat} (hts : s.texts = x :: ts) : ∃ q cap, w.cell? ⟨g, 3, none⟩ = some (.slice (some ⟨q, 0, none⟩) (ts.length + 1) cap) ∧ w.cell? ⟨q, ts.length, none⟩ = some (.int .i64 (x : Int)) ∧ w.frozen? ⟨q, ts.length, none⟩ = false ∧
    ts.length + 1 ≤ cap ∧ ∀ y : Nat, LxV w0 g S { s with texts := y :: ts } (w.setCell ⟨q, ts.length, none⟩ (.int .i64 (y : Int))) := by
  obtain ⟨hb, h2, tv, xv, hh, ho, hx⟩ := h
  rw [hts, txCells_cons] at hx
  have hx' := hx
  rcases hx'.2 with ⟨_, h0⟩ | ⟨q, cap, cur, rfl, hq, hqq, h1, h3, h4, h5⟩
  · simp at h0
  have hl : (txCells ts).length = ts.length := txCells_length ts
  refine ⟨q, cap, by rw [Lib.cell_of_heap hh]; rfl, ?_, hx.frozenAt ts.length, h1, fun y => ?_⟩
  · rw [hx.cellAt ts.length (by simp)]
    rw [List.getElem?_append_right (by omega), hl, Nat.sub_self]; rfl
  · have hst := (hx.stored ts.length (.int .i64 (y : Int))).1
    have hset : (txCells ts ++ [Value.int .i64 (x : Int)]).set ts.length (.int .i64 (y : Int)) = txCells (y :: ts) := by
      rw [txCells_cons, List.set_append_right _ _ (by omega), hl, Nat.sub_self]; rfl
    rw [hset] at hst
    have hqg : q ≠ g := fun e => by subst e; rw [hh] at hqq; injection hqq with hqq; injection hqq with _ hqq _; exact absurd hqq (by decide)
    exact ⟨hb.setCell (p := ⟨q, ts.length, none⟩) hq _, h2, tv, _, (lheap_far hqg).trans hh, lowns_far ho hqq (by decide) _, hst⟩
theorem LxV.bare (h : LxV w0 g S s w) (hts : s.texts = []) : ∃ A cap, w.cell? ⟨g, 3, none⟩ = some (.slice A 0 cap) := by
  obtain ⟨tv, xv, _, _, c3, _, hx⟩ := h.rows
  obtain ⟨A, cap, rfl⟩ := lowns_slice hx
  rw [hts] at c3
  exact ⟨A, cap, c3⟩
end

theorem signS_nil (l : List UInt8) (s : LS) (t : List UInt8) (h : t ≠ []) (hx : s.texts = []) : signS l s t = putS { s with texts := [] } 6 t t.length := by
  obtain ⟨p, k, x, e⟩ := s
  simp only at hx
  subst hx
  unfold signS
  rw [if_neg h]

set_option maxHeartbeats 1000000 in
set_option maxRecDepth 100000 in
theorem lexSignM_any (w0 : World) (hT : Tabs w0) (g : Nat) (S : ByteArray) (s : LS) (h50 : s.texts.length ≤ 100) (hsm : ∀ x ∈ s.texts, x ≤ 16777216) (t : List UInt8) (ht3 : t.length ≤ 3) (w : World) (hp : s.pos < S.size) (hS : S.size ≤ 16777216) (ht : s.toks.length ≤ 16777210) (h : LxV w0 g S s w) :
    Calls Tryd.prog 31 #[.pointer (some ⟨g, 0, none⟩), .string ⟨t.toArray⟩] w fun e w' => e = .returned (.tuple #[]) ∧ LxV w0 g S (signS S.data.toList s t) w' := by
  have c1 := h.c1
  have KF := Lib.hid (fun (W : World) (h : LxV w0 g S s W) => RetE.of (lexFail_any w0 g S s W s.pos 2 h))
  have kput : ∀ (tx : List Nat) (W : World), LxV w0 g S { s with texts := tx } W → Calls Tryd.prog 25 #[.pointer (some ⟨g, 0, none⟩), .int .i64 ((6 : Nat) : Int), .string ⟨t.toArray⟩, .int .i64 (t.length : Int)] W (RetE (.tuple #[]) (LxV w0 g S (putS { s with texts := tx } 6 t t.length))) :=
    fun tx W h => RetE.of (lexPut_any w0 g S { s with texts := tx } W 6 t t.length (by simp only; omega) (by omega) (by simp only; omega) h)
  have hsize : (⟨t.toArray⟩ : ByteArray).size = t.length := rfl
  by_cases h0 : t = []
  · subst h0
    have HS : Hid (signS S.data.toList s [] = failS s s.pos 2) := Lib.hid (by unfold signS; rw [if_pos rfl])
    cases htx : s.texts with
    | nil =>
      obtain ⟨A, cap, c3⟩ := h.bare htx
      have H := Lib.hid h
      clear h htx hsm kput hsize
      go_enter Tryd.func31, Tryd.ntmps31
      go_wp2_with (go_at_call 18; refine (KF.out _ H.out).mono ?_)
      rintro e w1 ⟨rfl, h1⟩
      go_wp2
      go_returns
      exact ⟨rfl, by rw [HS.out]; exact h1⟩
    | cons x ts =>
      obtain ⟨q, cap, c3, c4, g4, hcap, hput⟩ := h.top htx
      have H := Lib.hid h
      rw [htx] at h50
      have h50' : ts.length ≤ 100 := by simp only [List.length_cons] at h50; omega
      clear h htx hsm kput hsize hput c4 g4 hcap h50
      go_enter Tryd.func31, Tryd.ntmps31
      go_wp2_with (go_at_call 18; refine (KF.out _ H.out).mono ?_)
      rintro e w1 ⟨rfl, h1⟩
      go_wp2
      go_returns
      exact ⟨rfl, by rw [HS.out]; exact h1⟩
  · have hl0 : 0 < t.length := List.length_pos_iff.2 h0
    by_cases h40 : t = [40]
    · subst h40
      cases htx : s.texts with
      | nil =>
        have HS := Lib.hid (signS_nil S.data.toList s [40] h0 htx)
        obtain ⟨A, cap, c3⟩ := h.bare htx
        have H := Lib.hid (show LxV w0 g S { s with texts := [] } w by rw [← htx]; exact h)
        have KP := Lib.hid (kput [])
        clear h htx hsm kput hsize h0
        go_enter Tryd.func31, Tryd.ntmps31
        go_wp2_with (go_at_call 25; refine (KP.out _ H.out).mono ?_)
        rintro e w1 ⟨rfl, h1⟩
        go_wp2
        go_returns
        exact ⟨rfl, by rw [HS.out]; exact h1⟩
      | cons x ts =>
        have HS : Hid (signS S.data.toList s [40] = putS { s with texts := (x + 1) :: ts } 6 [40] 1) := Lib.hid (by unfold signS; rw [if_neg h0, htx]; rfl)
        obtain ⟨q, cap, c3, c4, g4, hcap, hput⟩ := h.top htx
        have H := Lib.hid (hput (x + 1))
        have KP := Lib.hid (kput ((x + 1) :: ts))
        rw [htx] at h50 hsm
        have h50' : ts.length ≤ 100 := by simp only [List.length_cons] at h50; omega
        have hx := hsm x (List.mem_cons_self ..)
        clear h htx hsm kput hsize hput h50 h0
        go_enter Tryd.func31, Tryd.ntmps31
        go_wp2_with (go_at_call 25; refine (KP.out _ H.out).mono ?_)
        rintro e w1 ⟨rfl, h1⟩
        go_wp2
        go_returns
        exact ⟨rfl, by rw [HS.out]; exact h1⟩
    by_cases h41 : t = [41]
    · subst h41
      cases htx : s.texts with
      | nil =>
        have HS := Lib.hid (signS_nil S.data.toList s [41] h0 htx)
        obtain ⟨A, cap, c3⟩ := h.bare htx
        have H := Lib.hid (show LxV w0 g S { s with texts := [] } w by rw [← htx]; exact h)
        have KP := Lib.hid (kput [])
        clear h htx hsm kput hsize h0
        go_enter Tryd.func31, Tryd.ntmps31
        go_wp2_with (go_at_call 25; refine (KP.out _ H.out).mono ?_)
        rintro e w1 ⟨rfl, h1⟩
        go_wp2
        go_returns
        exact ⟨rfl, by rw [HS.out]; exact h1⟩
      | cons x ts =>
        obtain ⟨q, cap, c3, c4, g4, hcap, hput⟩ := h.top htx
        by_cases hx0 : x = 0
        · have HS : Hid (signS S.data.toList s [41] = textS S.data.toList (putS s 10 [] 1)) := Lib.hid (by unfold signS; rw [if_neg h0, htx]; simp only; rw [if_neg (by decide), if_pos trivial, if_pos hx0])
          have hx1 : ((x : Int) == 0) = true := by rw [hx0]; rfl
          have KO := Lib.hid (fun (W : World) (h : LxV w0 g S s W) => RetE.of (lexPut_any w0 g S s W 10 [] 1 (by omega) (by omega) (by omega) h))
          have KT := Lib.hid (fun (W : World) (h : LxV w0 g S (putS s 10 [] 1) W) => RetE.of (lexText_any w0 hT g S (putS s 10 [] 1) x ts htx (by rw [htx] at h50; simp only [List.length_cons] at h50; omega) W (by simp only [putS]; omega) (by omega) (by simp only [putS, List.length_append, List.length_singleton]; omega) h))
          have H := Lib.hid h
          rw [htx] at h50
          have h50' : ts.length ≤ 100 := by simp only [List.length_cons] at h50; omega
          clear h htx hsm kput hsize hput h50 h0 hx0
          go_enter Tryd.func31, Tryd.ntmps31
          go_wp2_with (go_at_call 25; refine (KO.out _ H.out).mono ?_)
          rintro e w1 ⟨rfl, h1⟩
          have H1 := Lib.hid h1
          clear h1
          go_wp2_with (go_at_call 26; refine (KT.out _ H1.out).mono ?_)
          rintro e w2 ⟨rfl, h2⟩
          go_wp2
          go_returns
          exact ⟨rfl, by rw [HS.out]; exact h2⟩
        · have HS : Hid (signS S.data.toList s [41] = putS { s with texts := (x - 1) :: ts } 6 [41] 1) := Lib.hid (by unfold signS; rw [if_neg h0, htx]; simp only; rw [if_neg (by decide), if_pos trivial, if_neg hx0]; rfl)
          have hx1 : ((x : Int) == 0) = false := beq_false_of_ne (by omega)
          have hxi : (x : Int) - 1 = ((x - 1 : Nat) : Int) := by omega
          have H := Lib.hid (hput (x - 1))
          have KP := Lib.hid (kput ((x - 1) :: ts))
          rw [htx] at h50 hsm
          have h50' : ts.length ≤ 100 := by simp only [List.length_cons] at h50; omega
          have hx := hsm x (List.mem_cons_self ..)
          have HXI := Lib.hid hxi
          clear h htx hsm kput hsize hput h50 h0 hx0 hxi
          go_enter Tryd.func31, Tryd.ntmps31
          go_wp2_with (rw [HXI.out]; go_at_call 25; refine (KP.out _ H.out).mono ?_)
          rintro e w1 ⟨rfl, h1⟩
          go_wp2
          go_returns
          exact ⟨rfl, by rw [HS.out]; exact h1⟩
    · have hd : ∀ z : List UInt8, t ≠ z → ((⟨t.toArray⟩ : ByteArray).toList == z) = false := fun z hz => by rw [Lib.toList_data]; exact beq_false_of_ne hz
      have d0 : ¬ (⟨t.toArray⟩ : ByteArray).toList = [] := by rw [Lib.toList_data]; exact h0
      have d1 : (⟨t.toArray⟩ : ByteArray).toList.isEmpty = false := by rw [Lib.toList_data]; cases t with
        | nil => exact absurd rfl h0
        | cons _ _ => rfl
      have d40 := hd [40] h40
      have d41 := hd [41] h41
      have n40 : ¬ (⟨t.toArray⟩ : ByteArray).toList = [40] := by rw [Lib.toList_data]; exact h40
      have n41 : ¬ (⟨t.toArray⟩ : ByteArray).toList = [41] := by rw [Lib.toList_data]; exact h41
      have hS0 : signS S.data.toList s t = putS s 6 t t.length := by
        unfold signS; rw [if_neg h0]
        cases s.texts with
        | nil => rfl
        | cons x ts => simp only; rw [if_neg h40, if_neg h41]
      have HS := Lib.hid hS0
      have KP := Lib.hid (kput s.texts)
      have H := Lib.hid h
      have hx3 : ∃ A n cap, w.cell? ⟨g, 3, none⟩ = some (.slice A n cap) ∧ n ≤ 100 := by
        cases htx : s.texts with
        | nil => obtain ⟨A, cap, c3⟩ := h.bare htx; exact ⟨A, 0, cap, c3, by omega⟩
        | cons x ts => obtain ⟨q, cap, c3, _⟩ := h.top htx; exact ⟨_, _, cap, c3, by rw [htx] at h50; exact h50⟩
      obtain ⟨A, n, cap, c3, hn⟩ := hx3
      have HSZ := Lib.hid hsize
      clear h hd hS0 hsm kput h0 h40 h41 h50
      generalize (⟨t.toArray⟩ : ByteArray) = T at *
      have hsize := HSZ.out
      clear HSZ
      go_enter Tryd.func31, Tryd.ntmps31
      go_wp2_with (go_at_call 25; refine (KP.out _ H.out).mono ?_)
      rintro e w1 ⟨rfl, h1⟩
      go_wp2
      go_returns
      exact ⟨rfl, by rw [HS.out]; exact h1⟩

end Go.Proofs.YtnbfikfngekfoaaDoor
