/-
  The walk of limb's Digits.
-/
import Derived.Test.YtmmlclgmehfmhaaDoorLimQ
namespace Go.Proofs.YtmmlclgmehfmhaaDoor
open Go.RowKit

set_option maxHeartbeats 2000000 in
set_option maxRecDepth 100000 in
theorem digits_any (A : Option Addr) (n cap : Nat) (l : List Nat) (w : World) (hR : RdN .u32 w A n l) (hn : n ≤ 549755813888) (hl : ∀ x ∈ l, x < 4294967296) (htab : Tab10 w) :
    Calls Tryd.prog 34 #[.slice A n cap] w fun e w' => e = .returned (.int .i64 ((digs 10 (val 1000000000 l)).length : Nat)) ∧ Below w.heap.size w w' := by
  have K1 := Lib.hid (norm_any A n cap l w hR (by omega) hl)
  have hd : (digs 1000000000 (val 1000000000 l)).length ≤ 549755813889 := by have := digs_val_len l hl; have := hR.1; omega
  clear hR hl
  generalize val 1000000000 l = x at *
  have HLT := Lib.hid (digs_lt 1000000000 (by omega) x)
  have HV := Lib.hid (val_digs 1000000000 (by omega) x)
  have HT := Lib.hid htab
  clear htab
  by_cases hx : x = 0
  · subst hx
    go_enter Tryd.func34, Tryd.ntmps34
    go_wp2_with (go_at_call 23; refine K1.out.mono ?_)
    rintro e w1 ⟨v1, rfl, hown1, hb1⟩
    rw [digs_zero] at hown1
    obtain ⟨B1, c1, rfl, hcap1, hrd1, hge1⟩ := hown1.rd
    go_wp2
    go_ret
    exact ⟨by rw [digs_zero]; rfl, hb1⟩
  · have hne : (digs 1000000000 x).length ≠ 0 := fun h => hx ((digs_nil 1000000000 x (by omega)).1 (List.eq_nil_of_length_eq_zero h))
    go_enter Tryd.func34, Tryd.ntmps34
    go_wp2_with (go_at_call 23; refine K1.out.mono ?_)
    rintro e w1 ⟨v1, rfl, hown1, hb1⟩
    have hvx := HV.out
    have htop := digs_top 1000000000 (by omega) x
    generalize digs 1000000000 x = X at *
    obtain ⟨B1, c1, rfl, hcap1, hrd1, hge1⟩ := hown1.rd
    have HT1 := Lib.hid (HT.out.below hb1)
    have HB1 := Lib.hid hb1
    obtain ⟨a, ha⟩ : ∃ a, X.length = a + 1 := ⟨X.length - 1, by omega⟩
    rw [ha] at hrd1 hcap1
    obtain ⟨hx0, hx1⟩ := htop a ha
    clear htop
    obtain ⟨g, o, rfl, hgl, hcl⟩ := hrd1.2 (by omega)
    have ca := hcl a (by omega)
    have hva := getD_lt (by omega) HLT.out a
    have hD := digs10_len X a HLT.out ha hx0
    rw [hvx] at hD
    have htx : (txt (X.getD a 0)).length = (digs 10 (X.getD a 0)).length := by unfold txt; rw [if_neg hx0, List.length_reverse]
    rw [← htx] at hD
    have K2 := Lib.hid (fmtUint_any (X.getD a 0) (by omega) w1 HT1.out)
    have HS := Lib.hid (size_of_bytes (Lib.decDigits (X.getD a 0)))
    have hl9 := (txt_len9 (X.getD a 0) hva).1
    have HDT := Lib.hid (decDigits_txt (X.getD a 0))
    have hs9 : (⟨(Lib.decDigits (X.getD a 0)).toArray⟩ : ByteArray).size = (txt (X.getD a 0)).length := by rw [HS.out, HDT.out, strD_len]
    rw [ha]
    have haa : ((a + 1 : Nat) : Int) - 1 = a := by omega
    have haB : a ≤ 549755813888 := by omega
    rw [← hs9] at hD hl9
    have HD := Lib.hid hD
    clear hcl hx0 hx1 hown1 hge1 hrd1 hne ha hvx htx hD HDT HS hs9
    generalize X.getD a 0 = t at *
    generalize (⟨(Lib.decDigits t).toArray⟩ : ByteArray) = s at *
    go_wp2_with (go_at_call 58; refine K2.out.mono ?_)
    rintro e w2 ⟨rfl, hb2⟩
    go_wp2
    go_ret
    refine ⟨?_, HB1.out.trans (hb2.mono HB1.out.size)⟩
    have := HD.out
    show Ending.returned (.int .i64 _) = _
    congr 2
    omega
end Go.Proofs.YtmmlclgmehfmhaaDoor
