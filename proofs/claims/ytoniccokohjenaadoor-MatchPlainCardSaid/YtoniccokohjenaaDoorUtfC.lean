/-
  The walks of utf's and its reference's Decode, Valid, Explode.
-/
import Derived.Test.YtoniccokohjenaaDoorUtfB
import Derived.Test.YtoniccokohjenaaDoorBld
namespace Go.Proofs.YtoniccokohjenaaDoor
open Go.RowKit

/-- the two tables of unicode/utf8, where they lie -/
def Tabs (w : World) : Prop := Lib.Utf8Tabs 0 1 w ∧ 0 < w.heap.size ∧ 1 < w.heap.size

theorem Tabs.below {B : Nat} {w w' : World} (h : Tabs w) (hb : Below B w w') (hB : w.heap.size ≤ B) : Tabs w' := by
  refine ⟨⟨fun c hc => ?_, fun i hi => ⟨?_, ?_⟩⟩, Nat.lt_of_lt_of_le h.2.1 hb.size, Nat.lt_of_lt_of_le h.2.2 hb.size⟩
  · rw [hb.cell (by simp only []; have := h.2.1; omega)]; exact h.1.1 c hc
  · rw [hb.cell (by simp only []; have := h.2.2; omega)]; exact (h.1.2 i hi).1
  · rw [hb.cell (by simp only []; have := h.2.2; omega)]; exact (h.1.2 i hi).2

set_option maxHeartbeats 400000 in
set_option maxRecDepth 100000 in
theorem utfDecode_any (s : ByteArray) (w : World) (hT : Tabs w) :
    Calls Tryd.prog 30 #[.string s] w fun e w' => e = .returned (decVal s.data.toList) ∧ Below w.heap.size w w' := by
  have hd := dec_go s
  have h1 : (Lib.decodeGo s).1 = (dec s.data.toList).1 := by rw [hd]
  have h2 : (Lib.decodeGo s).2 = (dec s.data.toList).2 := by rw [hd]
  have hle := dec_le s.data.toList
  have hk : decOk s.data.toList = (decide (1 < (dec s.data.toList).2) || ((dec s.data.toList).2 == 1 && decide ((dec s.data.toList).1 < 128))) := rfl
  have hv : decVal s.data.toList = .tuple #[.int .i64 (dec s.data.toList).1, .int .i64 (dec s.data.toList).2, .bool (decOk s.data.toList)] := rfl
  rw [hk] at hv
  clear hk hd
  have H1 := Lib.hid h1
  have H2 := Lib.hid h2
  clear h1 h2
  have HV := Lib.hid hv
  clear hv
  obtain ⟨c, hc⟩ : ∃ c, c = Calls Tryd.prog 38 #[.string s] w := ⟨_, rfl⟩
  have hcall := Tryd.utf8_DecodeRuneInString s w hT.1
  rw [H1.out, H2.out] at hcall
  generalize (dec s.data.toList).1 = r at hcall hle HV
  generalize (dec s.data.toList).2 = n at hcall hle HV
  obtain ⟨hr, hn⟩ := hle
  have hr' : (r : Int) ≤ 1114111 := by omega
  have hn' : (n : Int) ≤ 4 := by omega
  have HC := Lib.hid hcall
  clear hcall hc c
  rcases Nat.lt_trichotomy n 1 with h | h | h
  · obtain rfl : n = 0 := by omega
    go_enter Tryd.func30, Tryd.ntmps30
    go_wp2_with (go_at_call 38; refine HC.out.mono ?_; rintro e w1 ⟨rfl, hb⟩)
    go_ret3
    exact ⟨by rw [HV.out]; rfl, by assumption⟩
  · subst h
    by_cases h128 : (r : Int) < 128
    · go_enter Tryd.func30, Tryd.ntmps30
      go_wp2_with (go_at_call 38; refine HC.out.mono ?_; rintro e w1 ⟨rfl, hb⟩)
      go_ret3
      exact ⟨by rw [HV.out]; simp; omega, by assumption⟩
    · go_enter Tryd.func30, Tryd.ntmps30
      go_wp2_with (go_at_call 38; refine HC.out.mono ?_; rintro e w1 ⟨rfl, hb⟩)
      go_ret3
      exact ⟨by rw [HV.out]; simp; omega, by assumption⟩
  · have h' : (1 : Int) < (n : Int) := by omega
    go_enter Tryd.func30, Tryd.ntmps30
    go_wp2_with (go_at_call 38; refine HC.out.mono ?_; rintro e w1 ⟨rfl, hb⟩)
    go_ret3
    exact ⟨by rw [HV.out]; simp; omega, by assumption⟩

end Go.Proofs.YtoniccokohjenaaDoor
