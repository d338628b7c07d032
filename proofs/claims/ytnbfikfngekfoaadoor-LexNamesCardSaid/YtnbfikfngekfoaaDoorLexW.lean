/-
  The walks of Word, of the document's Name and Word, and of LexNames (chapter 14).
-/
import Derived.Test.YtnbfikfngekfoaaDoorLexM
import Derived.Test.YtnbfikfngekfoaaDoorLexA
namespace Go.Proofs.YtnbfikfngekfoaaDoor
open Go.RowKit

/-- the words of the language -/
def wordsL : List ByteArray := [⟨#[97, 110, 100]⟩, ⟨#[97, 115]⟩, ⟨#[98, 114, 101, 97, 107]⟩, ⟨#[99, 97, 116, 99, 104]⟩, ⟨#[100, 101, 102]⟩, ⟨#[101, 108, 105, 102]⟩, ⟨#[101, 108, 115, 101]⟩, ⟨#[101, 110, 100]⟩, ⟨#[102, 111, 114, 101, 97, 99, 104]⟩, ⟨#[105, 102]⟩, ⟨#[108, 97, 98, 101, 108]⟩, ⟨#[111, 114]⟩, ⟨#[114, 101, 100, 117, 99, 101]⟩, ⟨#[116, 104, 101, 110]⟩, ⟨#[116, 114, 121]⟩]
theorem words_cell (w : World) (T : TypeId) (j : Nat) (hj : j < wordsL.length) : (w.alloc (.cells (wordsL.map Value.string).toArray T)).cell? ⟨w.heap.size, 0 + j, none⟩ = some (.string (wordsL.getD j ByteArray.empty)) := by
  rw [Lib.cell_of_heap (World.alloc_heap_new w _), Nat.zero_add]
  simp [List.getElem?_map, List.getElem?_eq_getElem hj]

set_option maxHeartbeats 1000000 in
set_option maxRecDepth 100000 in
theorem lexWord_any (s : ByteArray) (w : World) :
    Calls Tryd.prog 13 #[.string s] w fun e w' => e = .returned (.bool (Lib.containsS wordsL s)) ∧ Below w.heap.size w w' := by
  have k1 := Tryd.slices_Contains_string w.heap.size 0 15 15 wordsL s (w.alloc (.cells (wordsL.map Value.string).toArray 9)) (by decide) (by decide) (words_cell w _)
  have htk : wordsL.take 15 = wordsL := rfl
  rw [htk] at k1
  have hcells : (wordsL.map Value.string).toArray = #[.string ⟨#[97, 110, 100]⟩, .string ⟨#[97, 115]⟩, .string ⟨#[98, 114, 101, 97, 107]⟩, .string ⟨#[99, 97, 116, 99, 104]⟩, .string ⟨#[100, 101, 102]⟩, .string ⟨#[101, 108, 105, 102]⟩, .string ⟨#[101, 108, 115, 101]⟩, .string ⟨#[101, 110, 100]⟩, .string ⟨#[102, 111, 114, 101, 97, 99, 104]⟩, .string ⟨#[105, 102]⟩, .string ⟨#[108, 97, 98, 101, 108]⟩, .string ⟨#[111, 114]⟩, .string ⟨#[114, 101, 100, 117, 99, 101]⟩, .string ⟨#[116, 104, 101, 110]⟩, .string ⟨#[116, 114, 121]⟩] := rfl
  rw [hcells] at k1
  generalize Lib.containsS wordsL s = B at k1
  have K1 := Lib.hid (RetE.of k1)
  clear k1 htk hcells
  go_enter Tryd.func13, Tryd.ntmps13
  go_wp2_with (go_at_call 22; refine K1.out.mono ?_)
  rintro e w1 ⟨rfl, rfl⟩
  go_wp2
  go_ret
  exact ⟨rfl, (Below.refl _ w).alloc (Nat.le_refl _) _⟩

theorem refLetter_any (c : Nat) (w : World) :
    Calls Tryd.prog 20 #[.int .u8 (c : Int)] w fun e w' => e = .returned (.bool (letB c)) ∧ w = w' := by
  go_enter Tryd.func20, Tryd.ntmps20
  go_wp2
  all_goals (go_ret; exact ⟨retb (by unfold letB; rw [Bool.eq_iff_iff]; simp; omega), rfl⟩)
theorem refDigit_any (c : Nat) (w : World) :
    Calls Tryd.prog 21 #[.int .u8 (c : Int)] w fun e w' => e = .returned (.bool (digB c)) ∧ w = w' := by
  go_enter Tryd.func21, Tryd.ntmps21
  go_wp2
  all_goals (go_ret; exact ⟨retb (by first | exact digB_ge c (by assumption) | exact digB_lt c (by assumption)), rfl⟩)

set_option maxHeartbeats 1000000 in
set_option maxRecDepth 100000 in
theorem refWord_any (s : ByteArray) (w : World) :
    Calls Tryd.prog 14 #[.string s] w fun e w' => e = .returned (.bool (Lib.containsS wordsL s)) ∧ Below w.heap.size w w' := by
  have hc := words_cell w 9
  have hcells : (wordsL.map Value.string).toArray = #[.string ⟨#[97, 110, 100]⟩, .string ⟨#[97, 115]⟩, .string ⟨#[98, 114, 101, 97, 107]⟩, .string ⟨#[99, 97, 116, 99, 104]⟩, .string ⟨#[100, 101, 102]⟩, .string ⟨#[101, 108, 105, 102]⟩, .string ⟨#[101, 108, 115, 101]⟩, .string ⟨#[101, 110, 100]⟩, .string ⟨#[102, 111, 114, 101, 97, 99, 104]⟩, .string ⟨#[105, 102]⟩, .string ⟨#[108, 97, 98, 101, 108]⟩, .string ⟨#[111, 114]⟩, .string ⟨#[114, 101, 100, 117, 99, 101]⟩, .string ⟨#[116, 104, 101, 110]⟩, .string ⟨#[116, 114, 121]⟩] := rfl
  rw [hcells] at hc
  have hiff : Lib.containsS wordsL s = true ↔ s ∈ wordsL := Lib.containsS_iff wordsL s
  have hl : wordsL.length = 15 := rfl
  obtain ⟨L, hL⟩ : ∃ L, wordsL = L := ⟨_, rfl⟩
  rw [hL] at hc hiff hl ⊢
  have HI := Lib.hid hiff
  have HC := Lib.hid hc
  have HLL := Lib.hid hl
  clear hL hc hiff hcells hl
  generalize Lib.containsS L s = B at HI
  go_enter Tryd.func14, Tryd.ntmps14
  go_wp2
  go_loop [4] (fun iv => ∃ i : Nat, i ≤ 15 ∧ iv = .int .i64 (i : Int) ∧ Hid (∀ x ∈ L.take i, x ≠ s)) (fun iv => 15 - (intOf iv).toNat)
  case atStart => exact ⟨0, Nat.zero_le _, rfl, Lib.hid (by simp)⟩
  case round =>
    obtain ⟨i, hi, rfl, hno⟩ := hrel
    by_cases hlt : i < 15
    · have hcell := HC.out i (by rw [HLL.out]; exact hlt)
      rw [Nat.zero_add] at hcell
      have hx : L[i]? = some (L.getD i ByteArray.empty) := by rw [List.getD_eq_getElem?_getD, List.getElem?_eq_getElem (by rw [HLL.out]; exact hlt)]; rfl
      have hnx : L.take (i + 1) = L.take i ++ [L.getD i ByteArray.empty] := by rw [List.take_add_one, hx]; rfl
      have HX := Lib.hid hx
      have HNX := Lib.hid hnx
      clear hx hnx
      generalize L.getD i ByteArray.empty = X at hcell HX HNX
      by_cases heq : X = s
      · have hB : B = true := HI.out.2 (by rw [← heq]; exact List.mem_of_getElem? HX.out)
        subst heq
        have HB := Lib.hid hB
        clear hB
        go_wp2
        go_ret
        exact ⟨by rw [HB.out]; rfl, (Below.refl _ w).alloc (Nat.le_refl _) _⟩
      · have hne : (X.toList == s.toList) = false := by
          rw [beq_eq_false_iff_ne]; intro h
          rw [Lib.toList_data, Lib.toList_data] at h
          exact heq (ba_ext h)
        have hne2 : ¬ X.toList = s.toList := by
          intro h
          rw [Lib.toList_data, Lib.toList_data] at h
          exact heq (ba_ext h)
        have HQ := Lib.hid heq
        clear heq
        go_wp2
        go_round
        case rel => exact ⟨i + 1, by omega, by go_num, Lib.hid (by
          rw [HNX.out]
          intro x hx
          rcases List.mem_append.1 hx with h | h
          · exact hno.out x h
          · rw [List.mem_singleton.1 h]; exact HQ.out)⟩
        case measure => simp [intOf]; omega
    · obtain rfl : i = 15 := by omega
      have hB : B = false := by
        cases hb : B with
        | false => rfl
        | true =>
          have h1 := HI.out.1 hb
          have h2 := hno.out s (by rw [List.take_of_length_le (by rw [HLL.out]; omega)]; exact h1)
          exact absurd rfl h2
      subst hB
      go_wp2
      go_ret
      exact ⟨rfl, (Below.refl _ w).alloc (Nat.le_refl _) _⟩

set_option maxHeartbeats 2000000 in
set_option maxRecDepth 100000 in
theorem refName_any (s : ByteArray) (w : World) (hs : s.size ≤ 9223372036854775807) :
    Calls Tryd.prog 12 #[.string s] w fun e w' => e = .returned (.bool (decide (0 < s.size) && decide (nameN s.data.toList = s.size))) ∧ w = w' := by
  have HL := Lib.hid (Lib.size_eq s)
  have hle := nameN_le s.data.toList
  rw [← Lib.size_eq] at hle
  go_enter Tryd.func12, Tryd.ntmps12
  go_wp2
  go_loop [3] (fun a => ∃ k : Nat, k ≤ s.size ∧ a = .int .i64 (k : Int) ∧ Hid (nameN s.data.toList = k + nameF (decide (0 < k)) (s.data.toList.drop k))) (fun a => s.size - (intOf a).toNat)
  case atStart => exact ⟨0, Nat.zero_le _, rfl, Lib.hid (by simp [nameN])⟩
  case round =>
    obtain ⟨k, hk, rfl, hd⟩ := hrel
    by_cases hlt : k < s.size
    · have hst := nameF_drop (decide (0 < k)) s.data.toList k (by rw [← HL.out]; exact hlt)
      have hb := bt_get s k hlt
      rw [hb] at hst
      have HST := Lib.hid hst
      clear hst hb
      have hnext : (letB s[k].toNat || (decide (0 < k) && digB s[k].toNat)) = true → nameN s.data.toList = (k + 1) + nameF (decide (0 < k + 1)) (s.data.toList.drop (k + 1)) := fun h => by
        rw [hd.out, HST.out, if_pos h, decide_eq_true (Nat.succ_pos k)]; omega
      have hstop : (letB s[k].toNat || (decide (0 < k) && digB s[k].toNat)) = false → nameN s.data.toList = k := fun h => by
        rw [hd.out, HST.out, h]; simp
      have kl := fun (W : World) => RetE.of (refLetter_any s[k].toNat W)
      have kd := fun (W : World) => RetE.of (refDigit_any s[k].toNat W)
      clear HST
      generalize letB s[k].toNat = a at kl hnext hstop
      generalize digB s[k].toNat = b at kd hnext hstop
      have HN := Lib.hid hnext
      have HS := Lib.hid hstop
      have KL := Lib.hid kl
      have KD := Lib.hid kd
      clear kl kd hnext hstop
      have hround : ∀ x : Value, nameN s.data.toList = (k + 1) + nameF (decide (0 < k + 1)) (s.data.toList.drop (k + 1)) → x = .int .i64 ((k : Int) + 1) → (∃ m : Nat, m ≤ s.size ∧ x = .int .i64 (m : Int) ∧ Hid (nameN s.data.toList = m + nameF (decide (0 < m)) (s.data.toList.drop m))) :=
        fun x h hx => ⟨k + 1, by omega, by rw [hx]; rfl, Lib.hid h⟩
      have HR := Lib.hid hround
      have hres : nameN s.data.toList = k → (decide (0 < s.size) && decide (nameN s.data.toList = s.size)) = false := fun h => by
        rw [h, decide_eq_false (show ¬ k = s.size by omega), Bool.and_false]
      have HRS := Lib.hid hres
      clear hround hres
      cases a with
      | true =>
        go_wp2_with (go_at_call 20; refine (KL.out _).mono ?_)
        rintro e w1 ⟨rfl, rfl⟩
        go_wp2
        go_round
        case rel => exact HR.out _ (HN.out rfl) rfl
        case measure => simp [intOf]; omega
      | false =>
        by_cases hk0 : 0 < k
        · have hki : ((k : Int) == 0) = false := beq_false_of_ne (by omega)
          cases b with
          | true =>
            go_wp2_with (go_at_call 20; refine (KL.out _).mono ?_)
            rintro e w1 ⟨rfl, rfl⟩
            go_wp2_with (go_at_call 21; refine (KD.out _).mono ?_)
            rintro e w1 ⟨rfl, rfl⟩
            go_wp2
            go_round
            case rel => exact HR.out _ (HN.out (by rw [decide_eq_true hk0]; rfl)) rfl
            case measure => simp [intOf]; omega
          | false =>
            go_wp2_with (go_at_call 20; refine (KL.out _).mono ?_)
            rintro e w1 ⟨rfl, rfl⟩
            go_wp2_with (go_at_call 21; refine (KD.out _).mono ?_)
            rintro e w1 ⟨rfl, rfl⟩
            go_wp2
            go_ret
            exact ⟨by rw [HRS.out (HS.out (by rw [Bool.and_false]; rfl))]; rfl, rfl⟩
        · obtain rfl : k = 0 := by omega
          go_wp2_with (go_at_call 20; refine (KL.out _).mono ?_)
          rintro e w1 ⟨rfl, rfl⟩
          go_wp2
          go_ret
          exact ⟨by rw [HRS.out (HS.out (by simp))]; rfl, rfl⟩
    · obtain rfl : k = s.size := by omega
      have hn : nameN s.data.toList = s.size := by rw [hd.out, List.drop_eq_nil_of_le (by rw [← HL.out]; exact Nat.le_refl _)]; simp [nameF]
      have HNN := Lib.hid hn
      clear hn hd hle
      by_cases h0 : 0 < s.size
      · have d0 : ¬ s.toList = [] := fun e => by rw [Lib.toList_data] at e; have := HL.out; rw [e, List.length_nil] at this; omega
        have d1 : s.toList.isEmpty = false := by rw [Lib.toList_data]; cases h : s.data.toList with
          | nil => exact absurd (by rw [Lib.toList_data]; exact h) d0
          | cons _ _ => rfl
        have d2 : (!s.toList.isEmpty) = true := by rw [d1]; rfl
        go_wp2
        go_ret
        exact ⟨by rw [HNN.out, decide_eq_true rfl]; rfl, rfl⟩
      · have d0 : s.toList = [] := by rw [Lib.toList_data]; exact List.length_eq_zero_iff.1 (by rw [← Lib.size_eq]; omega)
        have d1 : s.toList.isEmpty = true := by rw [d0]; rfl
        have d2 : (!s.toList.isEmpty) = false := by rw [d1]; rfl
        have HD0 := Lib.hid d0
        clear d0
        go_wp2
        go_ret
        exact ⟨rfl, rfl⟩

set_option maxHeartbeats 1000000 in
set_option maxRecDepth 100000 in
theorem lexNames_walk (s : ByteArray) (w : World) (hT : Tabs w) (hm : s.size ≤ maxLen) :
    Calls Tryd.prog 6 #[.string s] w fun e w' => e = .returned (.bool true) ∧ Below w.heap.size w w' := by
  have hm' : s.size ≤ 9223372036854775807 := by unfold maxLen at hm; omega
  have k1 := fun W => RetE.of (lexName_any s W hm')
  have k2 := fun W => RetE.of (refName_any s W hm')
  have k3 := fun W => RetE.of (lexWord_any s W)
  have k4 := fun W => RetE.of (refWord_any s W)
  generalize (decide (0 < s.size) && decide (nameN s.data.toList = s.size)) = B1 at k1 k2
  generalize Lib.containsS wordsL s = B2 at k3 k4
  have K0 := Lib.hid (RetE.of (lexShown_any w hT))
  have K1 := Lib.hid k1
  have K2 := Lib.hid k2
  have K3 := Lib.hid k3
  have K4 := Lib.hid k4
  clear k1 k2 k3 k4 hT hm hm'
  go_enter Tryd.func6, Tryd.ntmps6
  go_wp2_with (go_at_call 7; refine K0.out.mono ?_)
  rintro e w1 ⟨rfl, hb1⟩
  go_wp2_with (go_at_call 11; refine (K1.out _).mono ?_)
  rintro e w2 ⟨rfl, rfl⟩
  go_wp2_with (go_at_call 12; refine (K2.out _).mono ?_)
  rintro e w2 ⟨rfl, rfl⟩
  go_wp2_with (go_at_call 13; refine (K3.out _).mono ?_)
  rintro e w2 ⟨rfl, hb2⟩
  go_wp2_with (go_at_call 14; refine (K4.out _).mono ?_)
  rintro e w3 ⟨rfl, hb3⟩
  go_wp2
  go_ret
  exact ⟨by simp, hb1.trans ((hb2.trans (hb3.mono hb2.size)).mono hb1.size)⟩

end Go.Proofs.YtnbfikfngekfoaaDoor
