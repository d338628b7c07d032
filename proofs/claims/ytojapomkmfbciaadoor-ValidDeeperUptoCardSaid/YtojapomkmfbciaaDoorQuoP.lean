/-
  The walk of quote's written (chapter 5).
-/
import Derived.Test.YtojapomkmfbciaaDoorQuoO
namespace Go.Proofs.YtojapomkmfbciaaDoor
open Go.RowKit

theorem shortP_le (p : Nat) : shortP p < 256 := by unfold shortP; (repeat' split) <;> omega
theorem unitL_len (h : Nat) : (unitL h).length = 6 := rfl
theorem writeP_len (all : Bool) (p : Nat) : (writeP all p).length ≤ 12 := by
  unfold writeP
  (repeat' split)
  · simp
  · rw [unitL_len]; omega
  · rw [List.length_append, unitL_len, unitL_len]; omega
  · have := (enc_pos (p : Int)).2; omega
theorem bodyP_nil (all : Bool) : bodyP all [] = [] := rfl
theorem bodyP_cons (all : Bool) (p : Int) (l : List Int) : bodyP all (p :: l) = writeP all p.toNat ++ bodyP all l := rfl
theorem and1023 (a : Nat) (ha : a < 9223372036854775808) : bits BinOp.and IntKind.i64 (a : Int) 1023 = ((a % 1024 : Nat) : Int) := by
  show IntKind.i64.wrap ((BitVec.ofInt 64 (a : Int) &&& BitVec.ofInt 64 ((1023 : Nat) : Int)).toNat : Int) = _
  rw [BitVec.toNat_and, BitVec.ofInt_natCast, BitVec.ofInt_natCast, BitVec.toNat_ofNat, BitVec.toNat_ofNat, Nat.mod_eq_of_lt (by omega), Nat.mod_eq_of_lt (a := 1023) (by decide), show (1023 : Nat) = 2 ^ 10 - 1 from rfl, Nat.and_two_pow_sub_one_eq_mod]
  exact IntWalk.i64_in _ (by omega)

set_option maxHeartbeats 8000000 in
set_option maxRecDepth 100000 in
theorem quoWritten_any (s : ByteArray) (all : Bool) (w : World) (hT : Tabs w) (hs : s.size ≤ 1099511627776) :
    Calls Tryd.prog 24 #[.string s, .bool all] w fun e w' => e = .returned (.string ⟨(writtenP all s.data.toList).toArray⟩) ∧ Below w.heap.size w w' := by
  have HT := Lib.hid hT
  have hcl := clean_len s.data.toList
  rw [← Lib.size_eq] at hcl
  have hec : explode (clean s.data.toList) = explode s.data.toList := by
    unfold clean; exact explode_all _ (explode_pt _)
  have k1 := fun (w' : World) (ht : Tabs w') => utfClean_any s w' ht (by omega)
  have hwp : writtenP all s.data.toList = 34 :: (bodyP all (explode (clean s.data.toList)) ++ [34]) := by unfold writtenP; rw [hec]
  have HWP := Lib.hid hwp
  have K1 := Lib.hid k1
  clear hT k1 hec hwp
  generalize clean s.data.toList = c at hcl K1 HWP
  generalize writtenP all s.data.toList = R at HWP ⊢
  have HI0 := Lib.hid (Lib.IsBuilderF.of (Lib.fresh_isBuilder 57 5 w))
  go_enter Tryd.func24, Tryd.ntmps24
  go_wp2_with (go_at_call 37; refine (bld_writeByte w.heap.size w.heap.size _ _ _ HI0.out (by simp) (by simp)).mono ?_)
  rintro e w1 ⟨rfl, h1, b1, k1⟩
  have hb1 : Below w.heap.size w w1 := ((Below.refl _ w).alloc (Nat.le_refl _) _).trans b1
  go_wp2_with (go_at_call 17; refine (K1.out _ (HT.out.below hb1 (Nat.le_refl _))).mono ?_)
  rintro e w2 ⟨rfl, hb2⟩
  have HI2 := Lib.hid (bld_below (.inr h1) hb2)
  have hsz2 : w.heap.size < w2.heap.size := by
    have := hb2.size
    have h' := b1.size
    simp at h'
    omega
  have hB2 := hb1.trans (hb2.mono hb1.size)
  clear h1 b1 k1 hb1 hb2
  go_wp2
  have hcs : (⟨c.toArray⟩ : ByteArray).size = c.length := rfl
  go_loopw [] (fun wr => ∃ (k : Nat) (acc : List UInt8), k ≤ c.length ∧ Lib.IsBuilderF 57 5 w.heap.size w.heap.size (Lib.byteCells acc) wr ∧ wr.heap[w2.heap.size]? = some (.stringIter ⟨c.toArray⟩ k) ∧ Hid (34 :: bodyP all (explode c) = acc ++ bodyP all (explode (c.drop k))) ∧ acc.length ≤ 1 + 12 * k ∧ Below w.heap.size w wr) (fun wr => c.length - wr.iterPos w2.heap.size)
  case atStart =>
    refine ⟨0, [34], Nat.zero_le _, (show Lib.IsBuilderF _ _ _ _ ([] ++ [Value.int .u8 34]) _ from HI2.out.alloc _), ?_, rfl, by simp, hB2.alloc (by omega) _⟩
    have := World.iter_heap w2 (⟨c.toArray⟩ : ByteArray) 0
    simpa using this
  case round =>
    obtain ⟨k, acc, hk, hI, hit, hv, hal, hb⟩ := hrel
    have hsz : w2.heap.size < wr.heap.size := (Array.getElem?_eq_some_iff.1 hit).1
    by_cases hlt : k < c.length
    · have hne : (c.drop k).length ≠ 0 := by rw [List.length_drop]; omega
      have hn := dec_n _ hne
      have hl : (c.drop k).length = c.length - k := List.length_drop
      have hn3 : (dec (c.drop k)).2 ≤ c.length - k := by rw [← hl]; exact hn.2.2
      have hnx : ∀ ty, (Instr.next (.pointer (some ⟨w2.heap.size, 0, none⟩)) true ty).run Tryd.prog wr = _ := fun ty => next_at wr w2.heap.size ⟨c.toArray⟩ k ty hit hlt
      rw [show (⟨c.toArray⟩ : ByteArray).data.toList = c from rfl] at hnx
      have hst := congrArg (bodyP all) (explode_cons _ hne)
      rw [List.drop_drop, bodyP_cons, Int.toNat_natCast] at hst
      have hpt := dec_pt (c.drop k)
      have hle := dec_le (c.drop k)
      clear hl hne
      generalize bodyP all (explode (c.drop k)) = V2 at hv hst
      generalize (dec (c.drop k)).1 = r at hnx hle hst hpt
      generalize (dec (c.drop k)).2 = n at hnx hn hst hle hn3
      obtain ⟨hn1, hn2, _⟩ := hn
      have hr : (r : Int) ≤ 1114111 := by omega
      have hrn : r ≤ 1114111 := hle.1
      have HST := Lib.hid hst
      have HPT := Lib.hid hpt
      have HWL := Lib.hid (writeP_len all r)
      clear hst hpt hle
      have hI1 := hI.iterAt hit (k + n)
      have hit1 := Lib.iterAt_heap wr w2.heap.size ⟨c.toArray⟩ k (k + n) hit
      have hb1' := Lib.below_iterAt hb (k := w2.heap.size) (by omega) ⟨c.toArray⟩ (k + n)
      have hsz1 : w.heap.size ≤ (wr.iterAt w2.heap.size ⟨c.toArray⟩ (k + n)).heap.size := by rw [Lib.iterAt_size]; omega
      have HIT1 := Lib.hid hit1
      have HIT := Lib.hid hit
      have HI1 := Lib.hid hI1
      have hal2 : acc.length ≤ 60000000000000 := by omega
      clear hit1 hit hI hI1 hb HI2 hcl HI0
      have ks := fun (w' : World) => quoShort_any r hrn w'
      have hsl := shortP_le r
      have hwr : writeP all r = if shortP r ≠ 0 then [92, UInt8.ofNat (shortP r)]
        else if r < 32 ∨ r = 127 ∨ (all = true ∧ 127 < r ∧ r < 65536) then unitL r
        else if all = true ∧ 65536 ≤ r then unitL (55296 + (r - 65536) / 1024) ++ unitL (56320 + (r - 65536) % 1024)
        else enc (r : Int) := rfl
      have HX := Lib.hid hwr
      clear hwr
      generalize writeP all r = X at HST HWL HX
      generalize shortP r = S at ks hsl HX
      have KS := Lib.hid ks
      clear ks
      have hlenB : (Lib.byteCells acc).length = acc.length := Lib.byteCells_length _
      have HLB := Lib.hid hlenB
      clear hlenB
      by_cases hS : S = 0
      · rw [if_neg (fun h => h hS)] at HX
        have dS : ((S : Int) != 0) = false := by rw [hS]; rfl
        clear hS
        by_cases q1 : r < 32
        · rw [if_pos (.inl q1)] at HX
          have d2 : decide ((r : Int) < 32) = true := decide_eq_true (by omega)
          rw [HX.out] at HST HWL
          go_wp2_with (go_at_call 38; refine (KS.out _).mono ?_)
          rintro e w3 ⟨rfl, rfl⟩
          go_wp2_with (go_at_call 39; refine (quoUnit_any w.heap.size w.heap.size acc r (by omega) _ HI1.out (by omega) hsz1).mono ?_)
          rintro e w3 ⟨rfl, h1, b1, k1⟩
          have HIT2 := Lib.hid (k1.iter HIT1.out (by omega))
          have H1 := Lib.hid h1
          clear h1 k1
          go_wp2
          go_roundw
          case rel =>
            refine ⟨k + n, acc ++ unitL r, by omega, H1.out, HIT2.out, ?_, by have := HWL.out; simp only [List.length_append, unitL_len] at this ⊢; omega, hb1'.trans b1⟩
            show _ = _; rw [hv.out, HST.out]; simp
          case measure => rw [iterPos_of HIT2.out, iterPos_of HIT.out]; omega
        have d2 : decide ((r : Int) < 32) = false := decide_eq_false (by omega)
        by_cases q2 : r = 127
        · rw [if_pos (.inr (.inl q2))] at HX
          have d3 : ((r : Int) == 127) = true := by rw [q2]; rfl
          clear q1
          have Q2 := Lib.hid q2
          clear q2
          rw [HX.out] at HST HWL
          go_wp2_with (go_at_call 38; refine (KS.out _).mono ?_)
          rintro e w3 ⟨rfl, rfl⟩
          go_wp2_with (go_at_call 39; refine (quoUnit_any w.heap.size w.heap.size acc r (by have := Q2.out; omega) _ HI1.out (by omega) hsz1).mono ?_)
          rintro e w3 ⟨rfl, h1, b1, k1⟩
          have HIT2 := Lib.hid (k1.iter HIT1.out (by omega))
          have H1 := Lib.hid h1
          clear h1 k1
          go_wp2
          go_roundw
          case rel =>
            refine ⟨k + n, acc ++ unitL r, by omega, H1.out, HIT2.out, ?_, by have := HWL.out; simp only [List.length_append, unitL_len] at this ⊢; omega, hb1'.trans b1⟩
            show _ = _; rw [hv.out, HST.out]; simp
          case measure => rw [iterPos_of HIT2.out, iterPos_of HIT.out]; omega
        have d3 : ((r : Int) == 127) = false := by simp; omega
        cases all with
        | false =>
          rw [if_neg (fun h => h.elim q1 (fun h => h.elim q2 (fun h => absurd h.1 (by decide)))), if_neg (fun h => absurd h.1 (by decide))] at HX
          clear q1 q2
          rw [HX.out] at HST HWL
          go_wp2_with (go_at_call 38; refine (KS.out _).mono ?_)
          rintro e w3 ⟨rfl, rfl⟩
          go_wp2_with (go_at_call 31; refine (bld_writeRune w.heap.size w.heap.size _ (r : Int) (by omega) (by omega) _ HI1.out (by rw [HLB.out]; omega) hsz1).mono ?_)
          rintro e w3 ⟨rfl, h1, b1, k1⟩
          have HIT2 := Lib.hid (k1.iter HIT1.out (by omega))
          rw [runeCells_enc _ HPT.out] at h1
          have H1 := Lib.hid (Or.inr h1 : Lib.IsBuilderF _ _ _ _ _ w3)
          clear h1 k1
          go_wp2
          go_roundw
          case rel =>
            refine ⟨k + n, acc ++ enc (r : Int), by omega, by rw [Lib.byteCells_append]; exact H1.out, HIT2.out, ?_, by have := HWL.out; simp only [List.length_append] at this ⊢; omega, hb1'.trans b1⟩
            show _ = _; rw [hv.out, HST.out]; simp
          case measure => rw [iterPos_of HIT2.out, iterPos_of HIT.out]; omega
        | true =>
          by_cases q3 : 127 < r
          · have d4 : decide ((127 : Int) < (r : Int)) = true := decide_eq_true (by omega)
            by_cases q4 : r < 65536
            · rw [if_pos (.inr (.inr ⟨rfl, q3, q4⟩))] at HX
              have d5 : decide ((r : Int) < 65536) = true := decide_eq_true (by omega)
              clear q1 q2 q3
              rw [HX.out] at HST HWL
              go_wp2_with (go_at_call 38; refine (KS.out _).mono ?_)
              rintro e w3 ⟨rfl, rfl⟩
              go_wp2_with (go_at_call 39; refine (quoUnit_any w.heap.size w.heap.size acc r (by omega) _ HI1.out (by omega) hsz1).mono ?_)
              rintro e w3 ⟨rfl, h1, b1, k1⟩
              have HIT2 := Lib.hid (k1.iter HIT1.out (by omega))
              have H1 := Lib.hid h1
              clear h1 k1
              go_wp2
              go_roundw
              case rel =>
                refine ⟨k + n, acc ++ unitL r, by omega, H1.out, HIT2.out, ?_, by have := HWL.out; simp only [List.length_append, unitL_len] at this ⊢; omega, hb1'.trans b1⟩
                show _ = _; rw [hv.out, HST.out]; simp
              case measure => rw [iterPos_of HIT2.out, iterPos_of HIT.out]; omega
            · rw [if_neg (fun h => h.elim q1 (fun h => h.elim q2 (fun h => q4 h.2.2))), if_pos ⟨rfl, by omega⟩] at HX
              have d5 : decide ((r : Int) < 65536) = false := decide_eq_false (by omega)
              have d6 : decide ((65536 : Int) ≤ (r : Int)) = true := decide_eq_true (by omega)
              obtain ⟨x, hx⟩ : ∃ x, r - 65536 = x := ⟨_, rfl⟩
              have hxr : (r : Int) - 65536 = (x : Int) := by omega
              have hx2 : x ≤ 1048575 := by omega
              rw [hx] at HX
              have e1 : (55296 : Int) + (x : Int) / 1024 = ((55296 + x / 1024 : Nat) : Int) := by omega
              have e2 := and1023 x (by omega)
              have e3 : (56320 : Int) + ((x % 1024 : Nat) : Int) = ((56320 + x % 1024 : Nat) : Int) := by omega
              have hA : 55296 + x / 1024 ≤ 65535 := by omega
              have hB : 56320 + x % 1024 ≤ 65535 := by omega
              have hL : (acc ++ unitL (55296 + x / 1024)).length = acc.length + 6 := by rw [List.length_append, unitL_len]
              have HL := Lib.hid hL
              clear q1 q2 q3 q4 hx hL
              have hd1 : (0 : Int) ≤ (x : Int) := by omega
              generalize 55296 + x / 1024 = A at HX e1 hA HL
              generalize 56320 + x % 1024 = C at HX e3 hB
              generalize ((x % 1024 : Nat) : Int) = M at e2 e3
              rw [HX.out] at HST HWL
              go_wp2_with (go_at_call 38; refine (KS.out _).mono ?_)
              rintro e w3 ⟨rfl, rfl⟩
              go_wp2_with (go_at_call 39; refine (quoUnit_any w.heap.size w.heap.size acc A hA _ HI1.out (by omega) hsz1).mono ?_)
              rintro e w3 ⟨rfl, h1, b1, k1⟩
              have HIT3 := Lib.hid (k1.iter HIT1.out (by omega))
              have H1 := Lib.hid h1
              have hsz3 : w.heap.size ≤ w3.heap.size := Nat.le_trans hsz1 b1.size
              clear h1 k1
              go_wp2_with (go_at_call 39; refine (quoUnit_any w.heap.size w.heap.size (acc ++ unitL A) C hB _ H1.out (by rw [HL.out]; omega) hsz3).mono ?_)
              rintro e w4 ⟨rfl, h2, b2, k2⟩
              have HIT2 := Lib.hid (k2.iter HIT3.out (by omega))
              have H2 := Lib.hid h2
              clear h2 k2
              go_wp2
              go_roundw
              case rel =>
                refine ⟨k + n, (acc ++ unitL A) ++ unitL C, by omega, H2.out, HIT2.out, ?_, by have := HWL.out; simp only [List.length_append, unitL_len] at this ⊢; omega, (hb1'.trans b1).trans b2⟩
                show _ = _; rw [hv.out, HST.out]; simp
              case measure => rw [iterPos_of HIT2.out, iterPos_of HIT.out]; omega
          · rw [if_neg (fun h => h.elim q1 (fun h => h.elim q2 (fun h => q3 h.2.1))), if_neg (fun h => by have := h.2; omega)] at HX
            have d4 : decide ((127 : Int) < (r : Int)) = false := decide_eq_false (by omega)
            have d6 : decide ((65536 : Int) ≤ (r : Int)) = false := decide_eq_false (by omega)
            clear q1 q2 q3
            rw [HX.out] at HST HWL
            go_wp2_with (go_at_call 38; refine (KS.out _).mono ?_)
            rintro e w3 ⟨rfl, rfl⟩
            go_wp2_with (go_at_call 31; refine (bld_writeRune w.heap.size w.heap.size _ (r : Int) (by omega) (by omega) _ HI1.out (by rw [HLB.out]; omega) hsz1).mono ?_)
            rintro e w3 ⟨rfl, h1, b1, k1⟩
            have HIT2 := Lib.hid (k1.iter HIT1.out (by omega))
            rw [runeCells_enc _ HPT.out] at h1
            have H1 := Lib.hid (Or.inr h1 : Lib.IsBuilderF _ _ _ _ _ w3)
            clear h1 k1
            go_wp2
            go_roundw
            case rel =>
              refine ⟨k + n, acc ++ enc (r : Int), by omega, by rw [Lib.byteCells_append]; exact H1.out, HIT2.out, ?_, by have := HWL.out; simp only [List.length_append] at this ⊢; omega, hb1'.trans b1⟩
              show _ = _; rw [hv.out, HST.out]; simp
            case measure => rw [iterPos_of HIT2.out, iterPos_of HIT.out]; omega
      · rw [if_pos hS] at HX
        have dS : ((S : Int) != 0) = true := by simp; omega
        clear hS
        have hcell : Value.int .u8 (S : Int) = .int .u8 ((UInt8.ofNat S).toNat : Int) := by rw [UInt8.toNat_ofNat', Nat.mod_eq_of_lt hsl]
        have HC := Lib.hid hcell
        clear hcell
        go_wp2_with (go_at_call 38; refine (KS.out _).mono ?_)
        rintro e w3 ⟨rfl, rfl⟩
        go_wp2_with (go_at_call 37; refine (bld_writeByte w.heap.size w.heap.size _ _ _ HI1.out (by rw [HLB.out]; omega) hsz1).mono ?_)
        rintro e w3 ⟨rfl, h1, b1, k1⟩
        have HIT2 := Lib.hid (k1.iter HIT1.out (by omega))
        have hsz3 : w.heap.size ≤ w3.heap.size := Nat.le_trans hsz1 b1.size
        have H1 := Lib.hid (Or.inr h1 : Lib.IsBuilderF _ _ _ _ _ w3)
        clear h1 k1
        go_wp2_with (go_at_call 37; refine (bld_writeByte w.heap.size w.heap.size _ _ _ H1.out (by rw [List.length_append, HLB.out]; simp; omega) hsz3).mono ?_)
        rintro e w4 ⟨rfl, h2, b2, k2⟩
        have HIT3 := HIT2
        clear HIT2
        have HIT2 := Lib.hid (k2.iter HIT3.out (by omega))
        have H2 := Lib.hid (Or.inr h2 : Lib.IsBuilderF _ _ _ _ _ w4)
        clear h2 k2
        rw [HX.out] at HST HWL
        go_wp2
        go_roundw
        case rel =>
          refine ⟨k + n, acc ++ [92, UInt8.ofNat S], by omega, by rw [Lib.byteCells_append]; have := H2.out; rw [HC.out, List.append_assoc] at this; exact this, HIT2.out, ?_, by have := HWL.out; simp only [List.length_append, List.length_cons, List.length_nil] at this ⊢; omega, (hb1'.trans b1).trans b2⟩
          show _ = _; rw [hv.out, HST.out]; simp
        case measure => rw [iterPos_of HIT2.out, iterPos_of HIT.out]; omega
    · have hnx : ∀ ty, (Instr.next (.pointer (some ⟨w2.heap.size, 0, none⟩)) true ty).run Tryd.prog wr = _ := fun ty => Lib.run_next_end_at wr w2.heap.size ⟨c.toArray⟩ k ty hit hlt
      have hd : explode (c.drop k) = [] := explode_nil _ (by rw [List.length_drop]; omega)
      have hR : R = acc ++ [34] := by
        have h := hv.out
        rw [hd, bodyP_nil, List.append_nil] at h
        rw [HWP.out, ← List.cons_append, h]
      have HR := Lib.hid hR
      have HI := Lib.hid hI
      have hlenB : (Lib.byteCells acc).length = acc.length := Lib.byteCells_length _
      have HLB := Lib.hid hlenB
      have hal2 : acc.length ≤ 60000000000000 := by omega
      have hwr : w.heap.size ≤ wr.heap.size := hb.size
      clear hd hR hI hlenB hcl HI0 HI2
      go_wp2_with (go_at_call 37; refine (bld_writeByte w.heap.size w.heap.size _ _ _ HI.out (by rw [HLB.out]; omega) hwr).mono ?_)
      rintro e w3 ⟨rfl, h1, b1, k1⟩
      have H1 : Hid (Lib.IsBuilderF 57 5 w.heap.size w.heap.size (Lib.byteCells (acc ++ [34])) w3) := Lib.hid (by rw [Lib.byteCells_append]; exact .inr h1)
      have hsz3 : w.heap.size ≤ w3.heap.size := Nat.le_trans hwr b1.size
      clear h1 k1
      go_wp2_with (go_at_call 32; refine (Tryd.Builder_String_any_k w.heap.size w.heap.size _ _ H1.out hsz3).mono ?_)
      rintro e w4 ⟨rfl, _, b2, _⟩
      go_wp2
      go_ret
      exact ⟨by rw [HR.out]; rfl, (hb.trans b1).trans b2⟩

theorem quoQuote_any (s : ByteArray) (w : World) (hT : Tabs w) (hs : s.size ≤ 1099511627776) :
    Calls Tryd.prog 12 #[.string s] w fun e w' => e = .returned (.string ⟨(writtenP false s.data.toList).toArray⟩) ∧ Below w.heap.size w w' := by
  have h := quoWritten_any s false w hT hs
  go_enter Tryd.func12, Tryd.ntmps12
  go_wp2_with (go_at_call 24; refine h.mono ?_)
  rintro e w1 ⟨rfl, hb⟩
  go_wp2
  go_ret
  exact ⟨rfl, hb⟩
theorem quoAscii_any (s : ByteArray) (w : World) (hT : Tabs w) (hs : s.size ≤ 1099511627776) :
    Calls Tryd.prog 14 #[.string s] w fun e w' => e = .returned (.string ⟨(writtenP true s.data.toList).toArray⟩) ∧ Below w.heap.size w w' := by
  have h := quoWritten_any s true w hT hs
  go_enter Tryd.func14, Tryd.ntmps14
  go_wp2_with (go_at_call 24; refine h.mono ?_)
  rintro e w1 ⟨rfl, hb⟩
  go_wp2
  go_ret
  exact ⟨rfl, hb⟩

end Go.Proofs.YtojapomkmfbciaaDoor
