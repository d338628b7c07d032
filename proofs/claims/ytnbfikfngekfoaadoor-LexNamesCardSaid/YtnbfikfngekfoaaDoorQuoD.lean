/-
  The walk of quote's begins (chapter 5): could these bytes begin a code point's?
-/
import Derived.Test.YtnbfikfngekfoaaDoorQuoG
namespace Go.Proofs.YtnbfikfngekfoaaDoor
open Go.RowKit

abbrev moresL : List (List UInt8) := [[128], [128, 128], [128, 128, 128], [191], [191, 191], [191, 191, 191]]
def tryP (l m : List UInt8) : Bool := decOk (l ++ m) && ((dec (l ++ m)).2 == (l ++ m).length) && decide (127 < (dec (l ++ m)).1)
theorem beginsP_eq (l : List UInt8) : beginsP l = (decide (l.length ≤ 3) && moresL.any (tryP l)) := rfl

abbrev moresV : Value := .agg #[.string ⟨#[128]⟩, .string ⟨#[128, 128]⟩, .string ⟨#[128, 128, 128]⟩, .string ⟨#[191]⟩, .string ⟨#[191, 191]⟩, .string ⟨#[191, 191, 191]⟩]
theorem mores_at (k : Nat) (hk : k < 6) (w : World) : (Instr.index 86 moresV (.int .i64 (k : Int))).run Tryd.prog w = .ok (.string ⟨(moresL.getD k []).toArray⟩) w := by
  obtain rfl | rfl | rfl | rfl | rfl | rfl : k = 0 ∨ k = 1 ∨ k = 2 ∨ k = 3 ∨ k = 4 ∨ k = 5 := by omega
  all_goals kernel_rfl

theorem anyDrop (f : List UInt8 → Bool) (k : Nat) (hk : k < 6) : (moresL.drop k).any f = (f (moresL.getD k []) || (moresL.drop (k + 1)).any f) := by
  obtain rfl | rfl | rfl | rfl | rfl | rfl : k = 0 ∨ k = 1 ∨ k = 2 ∨ k = 3 ∨ k = 4 ∨ k = 5 := by omega
  all_goals simp

theorem mores_len (k : Nat) : (moresL.getD k []).length ≤ 3 := by
  by_cases hk : k < 6
  · obtain rfl | rfl | rfl | rfl | rfl | rfl : k = 0 ∨ k = 1 ∨ k = 2 ∨ k = 3 ∨ k = 4 ∨ k = 5 := by omega
    all_goals decide
  · rw [List.getD_eq_getElem?_getD, List.getElem?_eq_none (by simp; omega)]; decide

set_option maxHeartbeats 2000000 in
set_option maxRecDepth 100000 in
theorem quoBegins_any (A : Option Addr) (n cap : Nat) (l : List UInt8) (w : World) (hT : Tabs w) (hR : RdB w A n l) (h0 : 0 < n) (hn : n ≤ 17592186044416) :
    Calls Tryd.prog 57 #[.slice A n cap] w fun e w' => e = .returned (.bool (beginsP l)) ∧ Below w.heap.size w w' := by
  have hl := Lib.hid hR.1
  have HR := Lib.hid hR
  have HT := Lib.hid hT
  clear hR hT
  have hbp := beginsP_eq l
  have HP := Lib.hid hbp
  clear hbp
  generalize beginsP l = V at HP ⊢
  by_cases h3 : n ≤ 3
  · have hv : V = moresL.any (tryP l) := by rw [HP.out, hl.out, decide_eq_true h3, Bool.true_and]
    have HV := Lib.hid hv
    clear hv HP
    clear hn
    go_enter Tryd.func57, Tryd.ntmps57
    go_wp2
    go_loopw [13] (fun a wr => ∃ k : Nat, k ≤ 6 ∧ a = .int .i64 k ∧ Hid (V = (moresL.drop k).any (tryP l)) ∧ Below w.heap.size w wr) (fun a _ => 6 - (intOf a).toNat)
    case atStart => exact ⟨0, by omega, rfl, HV, Below.refl _ w⟩
    case round =>
      obtain ⟨k, hk, rfl, hf, hb⟩ := hrel
      have hR2 := HR.out.below hb
      have HR2 := Lib.hid hR2
      by_cases hk6 : k < 6
      · have hi := mores_at k hk6 wr
        have hml := mores_len k
        have had := anyDrop (tryP l) k hk6
        generalize moresL.getD k [] = m at hi hml had
        have hf' := Lib.hid (hf.out.trans had)
        have hcv := HR2.out.conv (cap := cap) Tryd.underlying52 Tryd.underlying5 Tryd.underlying9 h0
        have hlen : l.length + m.length ≤ 6 := by have := hl.out; omega
        have hda : ((⟨l.toArray⟩ : ByteArray) ++ ⟨m.toArray⟩).data.toList = l ++ m := by simp
        have k1 := fun (w' : World) (hw : Tabs w') => utfDecode_any ((⟨l.toArray⟩ : ByteArray) ++ ⟨m.toArray⟩) w' hw
        rw [hda] at k1
        have hsz : ((⟨l.toArray⟩ : ByteArray) ++ ⟨m.toArray⟩).size = l.length + m.length := by simp [ByteArray.size]
        have htp : tryP l m = (decOk (l ++ m) && ((dec (l ++ m)).2 == l.length + m.length) && decide (127 < (dec (l ++ m)).1)) := by unfold tryP; rw [List.length_append]
        have hdv : decVal (l ++ m) = .tuple #[.int .i64 ((dec (l ++ m)).1 : Int), .int .i64 ((dec (l ++ m)).2 : Int), .bool (decOk (l ++ m))] := rfl
        rw [hdv] at k1
        generalize dec (l ++ m) = D at k1 htp
        generalize decOk (l ++ m) = O at k1 htp
        obtain ⟨p, q⟩ := D
        simp only [] at k1 htp
        have K1 := Lib.hid k1
        have HTP := Lib.hid htp
        have HSZ := Lib.hid hsz
        clear k1 htp hsz hdv hda had hf hR2 hml
        go_wp2_with fail
        refine (K1.out _ (HT.out.below hb (Nat.le_refl _))).mono ?_
        rintro e w1 ⟨rfl, hb1⟩
        by_cases q1 : O = true
        · subst q1
          by_cases q2 : q = l.length + m.length
          · have d2 : ((q : Int) == ((l.length : Int) + (m.length : Int))) = true := by rw [q2]; simp
            have Q2 := Lib.hid q2
            clear q2
            by_cases q3 : 127 < p
            · have d3 : decide ((127 : Int) < (p : Int)) = true := decide_eq_true (by omega)
              go_wp2
              go_ret
              refine ⟨?_, hb.trans (hb1.mono hb.size)⟩
              rw [hf'.out, HTP.out, Q2.out]
              simp [q3]
            · have d3 : decide ((127 : Int) < (p : Int)) = false := decide_eq_false (by omega)
              have hno : tryP l m = false := by rw [HTP.out, decide_eq_false q3, Bool.and_false]
              go_wp2
              go_roundw
              case rel => exact ⟨k + 1, by omega, by go_num, Lib.hid (hf'.out.trans (by rw [hno, Bool.false_or])), hb.trans (hb1.mono hb.size)⟩
              case measure => simp [intOf]; omega
          · have d2 : ((q : Int) == ((l.length : Int) + (m.length : Int))) = false := by simp; omega
            have hno : tryP l m = false := by rw [HTP.out, beq_false_of_ne q2]; rfl
            clear q2
            go_wp2
            go_roundw
            case rel => exact ⟨k + 1, by omega, by go_num, Lib.hid (hf'.out.trans (by rw [hno, Bool.false_or])), hb.trans (hb1.mono hb.size)⟩
            case measure => simp [intOf]; omega
        · have q1' : O = false := by simpa using q1
          subst q1'
          have hno : tryP l m = false := by rw [HTP.out]; rfl
          clear q1
          go_wp2
          go_roundw
          case rel => exact ⟨k + 1, by omega, by go_num, Lib.hid (hf'.out.trans (by rw [hno, Bool.false_or])), hb.trans (hb1.mono hb.size)⟩
          case measure => simp [intOf]; omega
      · obtain rfl : k = 6 := by omega
        go_wp2
        go_ret
        refine ⟨?_, hb⟩
        rw [hf.out]
        rfl
  · have hv : V = false := by rw [HP.out, hl.out, decide_eq_false h3, Bool.false_and]
    have h3' : (3 : Int) < (n : Int) := by omega
    subst hv
    clear hn
    go_enter Tryd.func57, Tryd.ntmps57
    go_wp2
    go_ret
    exact ⟨rfl, Below.refl _ w⟩

end Go.Proofs.YtnbfikfngekfoaaDoor
