/-
  The walk of the document's Written (chapter 5).
-/
import Derived.Test.YtojapomkmfbciaaDoorQuoQ
namespace Go.Proofs.YtojapomkmfbciaaDoor
open Go.RowKit

theorem cat2 (a b : List UInt8) : (⟨a.toArray⟩ : ByteArray) ++ ⟨b.toArray⟩ = ⟨(a ++ b).toArray⟩ := ByteArray.ext (by simp)
theorem cat3 (a b c : List UInt8) : (⟨a.toArray⟩ : ByteArray) ++ ⟨b.toArray⟩ ++ ⟨c.toArray⟩ = ⟨(a ++ (b ++ c)).toArray⟩ := by rw [cat2, cat2, List.append_assoc]
theorem bodyP_append (all : Bool) (l m : List Int) : bodyP all (l ++ m) = bodyP all l ++ bodyP all m := by simp [bodyP]

set_option maxHeartbeats 8000000 in
set_option maxRecDepth 100000 in
theorem refWritten_any (s : ByteArray) (all : Bool) (w : World) (hs : s.size ≤ 1099511627776) :
    Calls Tryd.prog 13 #[.string s, .bool all] w fun e w' => e = .returned (.string ⟨(writtenP all s.data.toList).toArray⟩) ∧ Below w.heap.size w w' := by
  have k1 := refExplode_any s w (by omega)
  have hel := explode_len s.data.toList
  rw [← Lib.size_eq] at hel
  have hpt := explode_pt s.data.toList
  have hwp : writtenP all s.data.toList = 34 :: (bodyP all (explode s.data.toList) ++ [34]) := rfl
  generalize explode s.data.toList = l at k1 hel hpt hwp
  generalize writtenP all s.data.toList = R at hwp ⊢
  have HWP := Lib.hid hwp
  have HPT := Lib.hid hpt
  have K1 := Lib.hid k1
  clear hwp hpt k1
  go_enter Tryd.func13, Tryd.ntmps13
  go_wp2_with (go_at_call 25; refine K1.out.mono ?_)
  rintro e w1 ⟨v, rfl, hown, hb1⟩
  obtain ⟨A, cap, rfl, hcap, hR⟩ := OwnInts.rd hown
  have HR := Lib.hid hR
  clear hown hR
  go_wp2
  go_loopw [6, 7] (fun a b wr => ∃ (k : Nat) (acc : List UInt8), k ≤ l.length ∧ a = .string ⟨acc.toArray⟩ ∧ b = .int .i64 k ∧ Hid (acc ++ bodyP all (l.drop k) = 34 :: bodyP all l) ∧ acc.length ≤ 1 + 12 * k ∧ Below w1.heap.size w1 wr) (fun _ b _ => l.length - (intOf b).toNat)
  case atStart => exact ⟨0, [34], Nat.zero_le _, rfl, rfl, rfl, by simp, Below.refl _ _⟩
  case round =>
    obtain ⟨k, acc, hk, rfl, rfl, hv, hal, hb⟩ := hrel
    by_cases hlt : k < l.length
    · obtain ⟨bl, off, rfl, hbl, hcell⟩ := HR.out.2 (by omega)
      have hc := (hb.cell (p := ⟨bl, off + k, none⟩) hbl).trans (hcell k hlt)
      have hmem : l.getD k 0 ∈ l := by rw [List.getD_eq_getElem?_getD, List.getElem?_eq_getElem hlt]; exact List.getElem_mem hlt
      have hp := HPT.out _ hmem
      have hst : bodyP all (l.drop k) = writeP all (l.getD k 0).toNat ++ bodyP all (l.drop (k + 1)) := by
        rw [List.drop_eq_getElem_cons hlt, bodyP_cons, List.getD_eq_getElem?_getD, List.getElem?_eq_getElem hlt]; rfl
      have hpz := (isPt_iff _).1 hp
      obtain ⟨r, hr⟩ : ∃ r : Nat, l.getD k 0 = (r : Int) := ⟨(l.getD k 0).toNat, by omega⟩
      rw [hr] at hc hst hpz
      rw [Int.toNat_natCast] at hst
      have hrn : r ≤ 1114111 := by omega
      have HV2 := Lib.hid hst
      have HST : Hid (acc ++ bodyP all (l.drop k) = acc ++ (writeP all r ++ bodyP all (l.drop (k + 1)))) := Lib.hid (by rw [hst])
      have HWL := Lib.hid (writeP_len all r)
      have hal2 : acc.length ≤ 60000000000000 := by omega
      have hlk : (k : Int) < (l.length : Int) := by omega
      clear hst hp hr hmem hcell HV2 hpz
      have ks := fun (w' : World) => refLetter_any r hrn w'
      have hsl := shortP_le r
      have hwr : writeP all r = if shortP r ≠ 0 then [92, UInt8.ofNat (shortP r)]
        else if r < 32 ∨ r = 127 ∨ (all = true ∧ 127 < r ∧ r < 65536) then unitL r
        else if all = true ∧ 65536 ≤ r then unitL (55296 + (r - 65536) / 1024) ++ unitL (56320 + (r - 65536) % 1024)
        else enc (r : Int) := rfl
      have HX := Lib.hid hwr
      clear hwr
      generalize writeP all r = X at HST HWL HX
      generalize shortP r = S at ks hsl HX
      have KS := Lib.hid ks
      clear ks
      by_cases hS : S = 0
      · rw [if_neg (fun h => h hS)] at HX
        have dS : ((S : Int) != 0) = false := by rw [hS]; rfl
        clear hS
        by_cases q1 : r < 32
        · rw [if_pos (.inl q1)] at HX
          have d2 : decide ((r : Int) < 32) = true := decide_eq_true (by omega)
          rw [HX.out] at HST HWL
          go_wp2_with (go_at_call 26; refine (KS.out _).mono ?_)
          rintro e w3 ⟨rfl, b3⟩
          have hb3 := hb.trans (b3.mono hb.size)
          go_wp2_with (go_at_call 27; refine (refHex_any r (by omega) _).mono ?_)
          rintro e w4 ⟨rfl, rfl⟩
          have hx4 : (hex4 r).length ≤ 4 := Nat.le_refl _
          go_wp2
          go_roundw
          case rel =>
            refine ⟨k + 1, acc ++ unitL r, by omega, ?_, by go_num, ?_, by have := HWL.out; rw [List.length_append]; omega, hb3⟩
            · exact congrArg Value.string (by rw [unitL_hex]; exact cat3 _ _ _)
            · show _ = _; rw [← hv.out, HST.out, List.append_assoc]
          case measure => simp [intOf]; omega
        have d2 : decide ((r : Int) < 32) = false := decide_eq_false (by omega)
        by_cases q2 : r = 127
        · rw [if_pos (.inr (.inl q2))] at HX
          have d3 : ((r : Int) == 127) = true := by rw [q2]; rfl
          clear q1
          have Q2 := Lib.hid q2
          clear q2
          rw [HX.out] at HST HWL
          go_wp2_with (go_at_call 26; refine (KS.out _).mono ?_)
          rintro e w3 ⟨rfl, b3⟩
          have hb3 := hb.trans (b3.mono hb.size)
          go_wp2_with (go_at_call 27; refine (refHex_any r (by have := Q2.out; omega) _).mono ?_)
          rintro e w4 ⟨rfl, rfl⟩
          have hx4 : (hex4 r).length ≤ 4 := Nat.le_refl _
          go_wp2
          go_roundw
          case rel =>
            refine ⟨k + 1, acc ++ unitL r, by omega, ?_, by go_num, ?_, by have := HWL.out; rw [List.length_append]; omega, hb3⟩
            · exact congrArg Value.string (by rw [unitL_hex]; exact cat3 _ _ _)
            · show _ = _; rw [← hv.out, HST.out, List.append_assoc]
          case measure => simp [intOf]; omega
        have d3 : ((r : Int) == 127) = false := by simp; omega
        cases all with
        | false =>
          rw [if_neg (fun h => h.elim q1 (fun h => h.elim q2 (fun h => absurd h.1 (by decide)))), if_neg (fun h => absurd h.1 (by decide))] at HX
          clear q1 q2
          rw [HX.out] at HST HWL
          go_wp2_with (go_at_call 26; refine (KS.out _).mono ?_)
          rintro e w3 ⟨rfl, b3⟩
          have hb3 := hb.trans (b3.mono hb.size)
          go_wp2_with (go_at_call 28; refine (refBytes_any (r : Int) _ (by omega) (by omega)).mono ?_)
          rintro e w4 ⟨rfl, b4⟩
          rw [strOf_ptBytes]
          have hx4 : (enc (r : Int)).length ≤ 4 := (enc_pos _).2
          go_wp2
          go_roundw
          case rel =>
            refine ⟨k + 1, acc ++ enc (r : Int), by omega, ?_, by go_num, ?_, by have := HWL.out; rw [List.length_append]; omega, hb3.trans (b4.mono hb3.size)⟩
            · exact congrArg Value.string (cat2 _ _)
            · show _ = _; rw [← hv.out, HST.out, List.append_assoc]
          case measure => simp [intOf]; omega
        | true =>
          by_cases q3 : 127 < r
          · have d4 : decide ((127 : Int) < (r : Int)) = true := decide_eq_true (by omega)
            by_cases q4 : r < 65536
            · rw [if_pos (.inr (.inr ⟨rfl, q3, q4⟩))] at HX
              have d5 : decide ((r : Int) < 65536) = true := decide_eq_true (by omega)
              clear q1 q2 q3
              rw [HX.out] at HST HWL
              go_wp2_with (go_at_call 26; refine (KS.out _).mono ?_)
              rintro e w3 ⟨rfl, b3⟩
              have hb3 := hb.trans (b3.mono hb.size)
              go_wp2_with (go_at_call 27; refine (refHex_any r (by omega) _).mono ?_)
              rintro e w4 ⟨rfl, rfl⟩
              have hx4 : (hex4 r).length ≤ 4 := Nat.le_refl _
              go_wp2
              go_roundw
              case rel =>
                refine ⟨k + 1, acc ++ unitL r, by omega, ?_, by go_num, ?_, by have := HWL.out; rw [List.length_append]; omega, hb3⟩
                · exact congrArg Value.string (by rw [unitL_hex]; exact cat3 _ _ _)
                · show _ = _; rw [← hv.out, HST.out, List.append_assoc]
              case measure => simp [intOf]; omega
            · rw [if_neg (fun h => h.elim q1 (fun h => h.elim q2 (fun h => q4 h.2.2))), if_pos ⟨rfl, by omega⟩] at HX
              have d5 : decide ((r : Int) < 65536) = false := decide_eq_false (by omega)
              obtain ⟨x, hx⟩ : ∃ x, r - 65536 = x := ⟨_, rfl⟩
              have hxr : (r : Int) - 65536 = (x : Int) := by omega
              have hx2 : x ≤ 1048575 := by omega
              rw [hx] at HX
              have e1 : (55296 : Int) + (x : Int) / 1024 = ((55296 + x / 1024 : Nat) : Int) := by omega
              have e3 : (56320 : Int) + (x : Int) % 1024 = ((56320 + x % 1024 : Nat) : Int) := by omega
              have hA : 55296 + x / 1024 ≤ 65535 := by omega
              have hB : 56320 + x % 1024 ≤ 65535 := by omega
              clear q1 q2 q3 q4 hx
              generalize 55296 + x / 1024 = P at HX e1 hA
              generalize 56320 + x % 1024 = C at HX e3 hB
              rw [HX.out] at HST HWL
              go_wp2_with (go_at_call 26; refine (KS.out _).mono ?_)
              rintro e w3 ⟨rfl, b3⟩
              have hb3 := hb.trans (b3.mono hb.size)
              go_wp2_with (go_at_call 27; refine (refHex_any P hA _).mono ?_)
              rintro e w4 ⟨rfl, rfl⟩
              have hx4 : (hex4 P).length ≤ 4 := Nat.le_refl _
              go_wp2_with (go_at_call 27; refine (refHex_any C hB _).mono ?_)
              rintro e w4 ⟨rfl, rfl⟩
              have hx5 : (hex4 C).length ≤ 4 := Nat.le_refl _
              go_wp2
              go_roundw
              case rel =>
                refine ⟨k + 1, acc ++ (unitL P ++ unitL C), by omega, ?_, by go_num, ?_, by have := HWL.out; rw [List.length_append]; omega, hb3⟩
                · exact congrArg Value.string (by rw [unitL_hex, unitL_hex, cat3, cat3]; simp)
                · show _ = _; rw [← hv.out, HST.out, List.append_assoc]
              case measure => simp [intOf]; omega
          · rw [if_neg (fun h => h.elim q1 (fun h => h.elim q2 (fun h => q3 h.2.1))), if_neg (fun h => by have := h.2; omega)] at HX
            have d4 : decide ((127 : Int) < (r : Int)) = false := decide_eq_false (by omega)
            clear q1 q2 q3
            rw [HX.out] at HST HWL
            go_wp2_with (go_at_call 26; refine (KS.out _).mono ?_)
            rintro e w3 ⟨rfl, b3⟩
            have hb3 := hb.trans (b3.mono hb.size)
            go_wp2_with (go_at_call 28; refine (refBytes_any (r : Int) _ (by omega) (by omega)).mono ?_)
            rintro e w4 ⟨rfl, b4⟩
            rw [strOf_ptBytes]
            have hx4 : (enc (r : Int)).length ≤ 4 := (enc_pos _).2
            go_wp2
            go_roundw
            case rel =>
              refine ⟨k + 1, acc ++ enc (r : Int), by omega, ?_, by go_num, ?_, by have := HWL.out; rw [List.length_append]; omega, hb3.trans (b4.mono hb3.size)⟩
              · exact congrArg Value.string (cat2 _ _)
              · show _ = _; rw [← hv.out, HST.out, List.append_assoc]
            case measure => simp [intOf]; omega
      · rw [if_pos hS] at HX
        have dS : ((S : Int) != 0) = true := by simp; omega
        clear hS
        have hcv := fun (w' : World) => conv_new (P := Tryd.prog) Tryd.underlying26 Tryd.underlying5 Tryd.underlying9 w' [(S : Int)] #[.int .u8 (S : Int)] 5 1 1 rfl rfl
        have hst1 : strOfNums [(S : Int)] = ⟨[UInt8.ofNat S].toArray⟩ := rfl
        rw [hst1] at hcv
        clear hst1
        rw [HX.out] at HST HWL
        go_wp2_with (go_at_call 26; refine (KS.out _).mono ?_)
        rintro e w3 ⟨rfl, b3⟩
        have hb3 := hb.trans (b3.mono hb.size)
        go_wp2
        go_roundw
        case rel =>
          refine ⟨k + 1, acc ++ [92, UInt8.ofNat S], by omega, ?_, by go_num, ?_, by have := HWL.out; rw [List.length_append]; omega, hb3.alloc hb3.size _⟩
          · exact congrArg Value.string (by rw [show ([92, UInt8.ofNat S] : List UInt8) = [92] ++ [UInt8.ofNat S] from rfl]; exact cat3 _ _ _)
          · show _ = _; rw [← hv.out, HST.out, List.append_assoc]
        case measure => simp [intOf]; omega
    · obtain rfl : k = l.length := by omega
      have hR : R = acc ++ [34] := by
        have h := hv.out
        rw [List.drop_of_length_le (Nat.le_refl _), bodyP_nil, List.append_nil] at h
        rw [HWP.out, ← List.cons_append, ← h]
      have hal2 : acc.length ≤ 60000000000000 := by omega
      have HR2 := Lib.hid hR
      clear hR
      go_wp2
      go_ret
      refine ⟨?_, hb1.trans (hb.mono hb1.size)⟩
      rw [HR2.out]
      exact congrArg (fun x => Ending.returned (Value.string x)) (cat2 acc [34])

end Go.Proofs.YtojapomkmfbciaaDoor
