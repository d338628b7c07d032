/-
  The walks of utf's and its reference's Valid and Explode.
-/
import Derived.Test.YtoniccokohjenaaDoorUtfC
namespace Go.Proofs.YtoniccokohjenaaDoor
open Go.RowKit

theorem info_int : (Tryd.prog.info? 3).map (fun i => (i.zero, i.size, i.bytes)) = some (some (.int .i64 0), 1, 8) := by kernel_rfl

theorem ret_nat {k : IntKind} {a b : Nat} (h : a = b) : Ending.returned (.int k (a : Int)) = .returned (.int k (b : Int)) := by rw [h]

set_option maxHeartbeats 400000 in
set_option maxRecDepth 100000 in
theorem utfValid_any (s : ByteArray) (w : World) (hT : Tabs w) (hs : s.size ≤ maxLen) :
    Calls Tryd.prog 21 #[.string s] w fun e w' => e = .returned (.int .i64 (valid s.data.toList)) ∧ Below w.heap.size w w' := by
  have hsz := Lib.size_eq s
  have HSZ := Lib.hid hsz
  clear hsz
  have hs' := hs
  unfold maxLen at hs
  have HS := Lib.hid hs'
  clear hs'
  go_enter Tryd.func21, Tryd.ntmps21
  go_wp2
  go_loopw [3] (fun a wr => ∃ k : Nat, k ≤ s.size ∧ a = .int .i64 k ∧ Hid (valid s.data.toList = k + valid (s.data.toList.drop k)) ∧ Below w.heap.size w wr) (fun a _ => s.size - (intOf a).toNat)
  case atStart => exact ⟨0, Nat.zero_le _, rfl, (Nat.zero_add _).symm, Below.refl _ _⟩
  case round =>
    obtain ⟨k, hk, rfl, hv, hb⟩ := hrel
    by_cases hlt : k < s.size
    · have hext := drop_extract s k
      have hne : (s.data.toList.drop k).length ≠ 0 := by rw [List.length_drop, ← HSZ.out]; omega
      have hn := dec_n _ hne
      have HL := Lib.hid (show (s.data.toList.drop k).length = s.size - k by rw [List.length_drop, ← HSZ.out])
      have hn3 : (dec (s.data.toList.drop k)).2 ≤ s.size - k := by rw [← HL.out]; exact hn.2.2
      have hD : Calls Tryd.prog 30 #[.string (s.extract k s.size)] wr fun e w' => e = .returned (.tuple #[.int .i64 (dec (s.data.toList.drop k)).1, .int .i64 (dec (s.data.toList.drop k)).2, .bool (decOk (s.data.toList.drop k))]) ∧ Below wr.heap.size wr w' := by
        have := utfDecode_any (s.extract k s.size) wr (hT.below hb (Nat.le_refl _))
        rw [hext] at this
        exact this
      have hst := valid_step _ hne
      have hsp := valid_stop (s.data.toList.drop k)
      rw [List.drop_drop] at hst
      have hle := dec_le (s.data.toList.drop k)
      have HNE := Lib.hid hne
      clear hext hne
      generalize valid (s.data.toList.drop k) = V at hv hst hsp
      generalize (dec (s.data.toList.drop k)).1 = r at hD hle
      generalize (dec (s.data.toList.drop k)).2 = n at hD hn hst hle hn3
      generalize decOk (s.data.toList.drop k) = ok at hD hst hsp
      have HD := Lib.hid hD
      have HST := Lib.hid hst
      have HSP := Lib.hid hsp
      clear hD hst hsp
      obtain ⟨hn1, hn2, _⟩ := hn
      cases ok
      · go_wp2_with (go_at_call 30; refine HD.out.mono ?_; rintro e w1 ⟨rfl, hb1⟩)
        go_ret
        exact ⟨ret_nat (by have := hv.out; have := HSP.out (by simp); omega), hb.trans (hb1.mono hb.size)⟩
      · go_wp2_with (go_at_call 30; refine HD.out.mono ?_; rintro e w1 ⟨rfl, hb1⟩)
        go_roundw
        case rel => exact ⟨k + n, by omega, by go_num, by have := hv.out; have := HST.out (by simp); show _ = _; omega, hb.trans (hb1.mono hb.size)⟩
        case measure => simp [intOf]; omega
    · have hk' : k = s.size := by omega
      have hd : valid (s.data.toList.drop k) = 0 := valid_nil _ (by rw [List.length_drop, ← HSZ.out]; omega)
      have HD := Lib.hid hd
      have HK := Lib.hid hk'
      clear hd hk'
      go_wp2
      go_ret
      exact ⟨ret_nat (by have := hv.out; have := HD.out; omega), hb⟩

end Go.Proofs.YtoniccokohjenaaDoor
