/-
  The walks of both Cmp.
-/
import Derived.Test.YthhbpfejfolbiaaDoorUtfJ
namespace Go.Proofs.YthhbpfejfolbiaaDoor
open Go.RowKit

set_option maxHeartbeats 1000000 in
set_option maxRecDepth 100000 in
theorem refCmp_any (s t : ByteArray) (w : World) (hs : s.size ≤ 17592186044416) (ht : t.size ≤ 17592186044416) :
    Calls Tryd.prog 28 #[.string s, .string t] w fun e w' => e = .returned (.int .i64 (cmpL (explode s.data.toList) (explode t.data.toList))) ∧ Below w.heap.size w w' := by
  have hn := explode_len s.data.toList
  have hm := explode_len t.data.toList
  rw [← Lib.size_eq] at hn hm
  go_enter Tryd.func28, Tryd.ntmps28
  go_wp2_with (go_at_call 18; refine (refExplode_any _ _ hs).mono ?_)
  rintro e w1 ⟨v, rfl, hown, hb1⟩
  obtain ⟨A, ca, rfl, hca, hA⟩ := hown.rd
  go_wp2_with (go_at_call 18; refine (refExplode_any _ _ ht).mono ?_)
  rintro e w2 ⟨v, rfl, hown2, hb2⟩
  obtain ⟨B, cb, rfl, hcb, hB⟩ := hown2.rd
  have hA2 := hA.below hb2
  have hbb := hb1.trans (hb2.mono hb1.size)
  clear hA hown hown2 hb1 hb2
  generalize hla : explode s.data.toList = la at *
  generalize hlb : explode t.data.toList = lb at *
  have HLA := Lib.hid hla
  have HLB := Lib.hid hlb
  clear hla hlb
  obtain ⟨_, hat⟩ := hA2
  obtain ⟨_, hbt⟩ := hB
  have HAT := Lib.hid hat
  have HBT := Lib.hid hbt
  clear hat hbt
  go_wp2
  go_loopw [7] (fun a wr => ∃ k : Nat, k ≤ la.length ∧ k ≤ lb.length ∧ a = .int .i64 k ∧ Hid (cmpL la lb = cmpL (la.drop k) (lb.drop k)) ∧ Below w2.heap.size w2 wr) (fun a _ => la.length - (intOf a).toNat)
  case atStart => exact ⟨0, Nat.zero_le _, Nat.zero_le _, rfl, rfl, Below.refl _ _⟩
  case round =>
    obtain ⟨k, hk, hkm, rfl, hv, hb⟩ := hrel
    have HE := Lib.hid (cmpL_end la lb k hk hkm)
    have hw2 := hbb.size
    by_cases hlt : k < la.length
    · by_cases hlm : k < lb.length
      · obtain ⟨b, off, rfl, hbl, hc⟩ := HAT.out (by omega)
        obtain ⟨b2, off2, rfl, hbl2, hc2⟩ := HBT.out (by omega)
        have c1 : wr.cell? ⟨b, off + k, none⟩ = some (.int .i64 (la.getD k 0)) := (hb.cell (p := ⟨b, off + k, none⟩) hbl).trans (hc k hlt)
        have c2 : wr.cell? ⟨b2, off2 + k, none⟩ = some (.int .i64 (lb.getD k 0)) := (hb.cell (p := ⟨b2, off2 + k, none⟩) hbl2).trans (hc2 k hlm)
        have HD := Lib.hid (cmpL_drop la lb k hlt hlm)
        clear hc hc2
        generalize la.getD k 0 = x at c1 HD
        generalize lb.getD k 0 = y at c2 HD
        have hkl : (k : Int) < (la.length : Int) := by omega
        have hkl2 : (k : Int) < (lb.length : Int) := by omega
        have hk0 : (0 : Int) ≤ (k : Int) := by omega
        go_wp2
        go_quiet (fail)
        by_cases h1 : x < y
        · have HV := Lib.hid (show cmpL la lb = -1 by rw [hv.out, HD.out, if_pos h1])
          go_wp2
          go_ret
          exact ⟨by rw [HLA.out, HLB.out, HV.out]; rfl, hbb.trans (by repeat (first | exact hb.mono hw2 | refine below_drewN ?_ _))⟩
        · have h1' : decide (x < y) = false := by simpa using h1
          go_wp2
          go_quiet (fail)
          by_cases h2 : y < x
          · have HV := Lib.hid (show cmpL la lb = 1 by rw [hv.out, HD.out, if_neg (by omega), if_pos h2])
            go_wp2
            go_ret
            exact ⟨by rw [HLA.out, HLB.out, HV.out]; rfl, hbb.trans (by repeat (first | exact hb.mono hw2 | refine below_drewN ?_ _))⟩
          · have h2' : decide (y < x) = false := by simpa using h2
            have HV := Lib.hid (show cmpL la lb = cmpL (la.drop (k + 1)) (lb.drop (k + 1)) by rw [hv.out, HD.out, if_neg (by omega), if_neg h2])
            go_wp2
            go_roundw
            case rel => exact ⟨k + 1, by omega, by omega, by go_num, HV.out, by repeat (first | exact hb | refine below_drewN ?_ _)⟩
            case measure => simp [intOf]; omega
      · have HV := Lib.hid (show cmpL la lb = 1 by rw [hv.out, HE.out (.inr (by omega)), if_neg (by omega), if_pos (by omega)])
        have h1 : ¬ (la.length : Int) < (lb.length : Int) := by omega
        have h2 : (lb.length : Int) < (la.length : Int) := by omega
        go_wp2
        go_ret
        exact ⟨by rw [HLA.out, HLB.out, HV.out]; rfl, hbb.trans (hb.mono hw2)⟩
    · have HV := Lib.hid (HE.out (.inl (by omega)))
      by_cases h1 : (la.length : Int) < (lb.length : Int)
      · go_wp2
        go_ret
        exact ⟨by rw [HLA.out, HLB.out, hv.out, HV.out, if_pos (by omega)]; rfl, hbb.trans (hb.mono hw2)⟩
      · have h2 : ¬ (lb.length : Int) < (la.length : Int) := by omega
        go_wp2
        go_ret
        exact ⟨by rw [HLA.out, HLB.out, hv.out, HV.out, if_neg (by omega), if_neg (by omega)]; rfl, hbb.trans (hb.mono hw2)⟩

/-- two strings, byte by byte -/
def strCmp (a b : ByteArray) : Int := if Op.bytesLess a.toList b.toList = true then -1 else if a.toList = b.toList then 0 else 1

set_option maxHeartbeats 1000000 in
set_option maxRecDepth 100000 in
theorem cmpStr_any (a b : ByteArray) (w : World) :
    Calls Tryd.prog 39 #[.string a, .string b] w fun e w' => e = .returned (.int .i64 (strCmp a b)) ∧ w = w' := by
  unfold strCmp
  cases h1 : Op.bytesLess a.toList b.toList
  · cases h2 : a.toList == b.toList
    · have h3 : a.toList ≠ b.toList := by simpa using h2
      have H3 := Lib.hid h3
      clear h3
      go_enter Tryd.func39, Tryd.ntmps39
      go_wp2
      go_ret
      exact ⟨by simp, rfl⟩
    · have h3 : a.toList = b.toList := by simpa using h2
      have H3 := Lib.hid h3
      clear h3
      go_enter Tryd.func39, Tryd.ntmps39
      go_wp2
      go_ret
      exact ⟨by simp, rfl⟩
  · go_enter Tryd.func39, Tryd.ntmps39
    go_wp2
    go_ret
    exact ⟨by simp, rfl⟩

end Go.Proofs.YthhbpfejfolbiaaDoor
