/-
  The walk of the law QuoteViable (chapter 5).
-/
import Derived.Test.YtojapomkmfbciaaDoorQuoVk
namespace Go.Proofs.YtojapomkmfbciaaDoor
open Go.RowKit

theorem read_valid (b : List UInt8) : valid (readP b).1 = (readP b).1.length := by
  have hz : valid ([] : List UInt8) = ([] : List UInt8).length := rfl
  unfold readP
  split
  · exact hz
  split
  · exact hz
  · have : ∀ ps : List Pc, (∀ p ∈ ps, okPc p) → ∃ l : List Int, (∀ x ∈ l, isPt x = true) ∧ textP ps = allB l := fun ps => by
      induction ps with
      | nil => exact fun _ => ⟨[], fun x hx => absurd hx List.not_mem_nil, rfl⟩
      | cons p ps ih =>
        intro h
        obtain ⟨l, h1, h2⟩ := ih (fun q hq => h q (List.mem_cons_of_mem _ hq))
        by_cases hs : 0 < p.size
        · refine ⟨(p.point : Int) :: l, fun x hx => ?_, by rw [textP_cons, if_pos hs, h2, allB_cons]⟩
          rcases List.mem_cons.1 hx with rfl | hx
          · exact (h p List.mem_cons_self).2.2
          · exact h1 x hx
        · exact ⟨l, h1, by rw [textP_cons, if_neg hs, h2, List.nil_append]⟩
    obtain ⟨l, h1, h2⟩ := this _ (piecesP_ok _)
    simp only []
    rw [h2]
    exact valid_all l h1
theorem read_text_le (b : List UInt8) : (readP b).1.length ≤ 4 * b.length := by
  unfold readP
  split
  · simp
  rename_i hq
  split
  · simp
  · have h1 := textQ_le (piecesQ (b.drop 1))
    have h2 := piecesQ_len (b.drop 1)
    rw [valsQ_all] at h1
    rw [List.length_drop] at h2
    have h0 : b.length ≠ 0 := fun e => hq (.inl e)
    simp only []
    omega

/-- the address of a part from the beginning on -/
def hiA (A : Option Addr) (cap : Nat) : Option Addr := if cap = 0 then A else A.map (·.add 0)
theorem RdB.hi {w : World} {A : Option Addr} {n cap : Nat} {l : List UInt8} (h : RdB w A n l) {k : Nat} (hk : k ≤ n) (hc : n ≤ cap) : RdB w (hiA A cap) k (l.take k) := by
  refine ⟨by rw [List.length_take, h.1]; omega, fun h0 => ?_⟩
  obtain ⟨b, off, rfl, hlt, hcell⟩ := h.2 (by omega)
  refine ⟨b, off, ?_, hlt, fun i hi => ?_⟩
  · unfold hiA; rw [if_neg (by omega), Option.map_some, add_flat, Nat.add_zero]
  · rw [hcell i (by omega), bt_take _ _ _ hi]
set_option maxRecDepth 100000 in
theorem sl_hi (A : Option Addr) (n cap k : Nat) (hk : k ≤ n) (hc : n ≤ cap) (w : World) :
    (Instr.slice 26 (.slice A n cap) none (some (.int .i64 (k : Int))) none).run Tryd.prog w = .ok (.slice (hiA A cap) k cap) w := by
  rw [run_slice_h (P := Tryd.prog) w 26 A n cap Tryd.underlying26 .i64 (k : Int) (by omega) (by omega)]
  rw [show (sizeOf (Tryd.prog.elem 26)).run Tryd.prog w = .ok 1 w by kernel_rfl]
  simp [Result.andThen, sliced, hiA]
set_option maxRecDepth 100000 in
theorem sl_hiAt (A : Option Addr) (n cap k : Nat) (hk : k ≤ n) (hc : n ≤ cap) (w : World) :
    (Instr.sliceAt 26 (.slice A n cap) none (some (.int .i64 (k : Int))) none).run Tryd.prog w = .ok (.slice (hiA A cap) k cap) w := by
  rw [run_sliceAt_slice (P := Tryd.prog) _ _ _ _ _ _ Tryd.underlying26]
  exact sl_hi A n cap k hk hc w

set_option maxHeartbeats 8000000 in
set_option maxRecDepth 100000 in
theorem quoteViable_walk (A : Option Addr) (n cap : Nat) (l : List UInt8) (u : Nat) (w : World) (hT : Tabs w) (hR : RdB w A n l) (hn : n ≤ 1048576) (hcap : n ≤ cap) (hu : u < 256) :
    Calls Tryd.prog 5 #[.slice A n cap, .int .u8 u] w fun e w' => e = .returned (.bool true) ∧ Below w.heap.size w w' := by
  have HT := Lib.hid hT
  have HR := Lib.hid hR
  obtain ⟨i0, hi, hz0, hz1, hz2⟩ := info_parts infoByte
  have k0 := fun (W : World) (h : Tabs W) => quoShown_any W h
  have k1 := fun (W : World) (h : Tabs W) (hr : RdB W A n l) => quoRead_any A n cap l W h hr (by omega) hcap
  have hval := read_valid l
  have htl := read_text_le l
  have hkeep := fun h => read_keep l [UInt8.ofNat u] h
  have hstop := read_stop l
  have hll := hR.1
  rw [hll] at htl
  have rv : readV l = .tuple #[.string ⟨(readP l).1.toArray⟩, .int .i64 ((readP l).2.1 : Int), .int .i64 ((readP l).2.2 : Int)] := rfl
  rw [rv] at k1
  have hbu : ((UInt8.ofNat u).toNat : Int) = (u : Int) := by rw [UInt8.toNat_ofNat', Nat.mod_eq_of_lt hu]
  have hcu : (Lib.byteCells [UInt8.ofNat u]).toArray = #[Value.int .u8 (u : Int)] := by
    show #[Value.int .u8 ((UInt8.ofNat u).toNat : Int)] = _; rw [hbu]
  have K0 := Lib.hid k0
  have hkn : (readP l).2.1 ≤ n := by
    by_cases h : (readP l).2.2 = 0
    · have := (hkeep h).1; omega
    · have := (hstop h).2.1; omega
  generalize hP : readP l = P at k1 hval htl hkeep hstop hkn
  obtain ⟨t, k, er⟩ := P
  simp only [] at k1 hval htl hkeep hstop hkn
  have K1 := Lib.hid k1
  have HKEEP := Lib.hid hkeep
  have HSTOP := Lib.hid hstop
  have HVAL := Lib.hid hval
  have HLL := Lib.hid hll
  have HCU := Lib.hid hcu
  have d1 : decide ((k : Int) < 0) = false := decide_eq_false (by omega)
  have d2 : decide ((n : Int) < (k : Int)) = false := decide_eq_false (by omega)
  have hs1 := fun (W : World) => sl_hi A n cap k hkn hcap W
  have hs2 := fun (W : World) => sl_hiAt A n cap k hkn hcap W
  clear hT hR k0 k1 hkeep hstop hval hll rv hbu hcu hP
  go_enter Tryd.func5, Tryd.ntmps5
  go_wp2_with (go_at_call 11; refine (K0.out _ HT.out).mono ?_)
  rintro e w1 ⟨rfl, c1⟩
  go_wp2_with (go_at_call 15; refine (K1.out _ (HT.out.below c1 (Nat.le_refl _)) (HR.out.below c1)).mono ?_)
  rintro e w2 ⟨rfl, b2⟩
  have c2 := c1.trans (b2.mono c1.size)
  have y2 : Below w.heap.size w (w2.alloc (.cells #[] 5)) := c2.alloc c2.size _
  have hRk := fun (W : World) (hb : Below w.heap.size w W) => (HR.out.below hb).hi (k := k) hkn hcap
  have HRK := Lib.hid hRk
  clear hRk
  by_cases he : er = 0
  · subst he
    obtain ⟨_, hrd⟩ := HKEEP.out rfl
    have hbl : (l.take k).length = k := by rw [List.length_take, HLL.out]; omega
    obtain ⟨L, hL⟩ : ∃ L, l.take k ++ [UInt8.ofNat u] = L := ⟨_, rfl⟩
    have hLl : L.length ≤ 1048577 := by rw [← hL, List.length_append, hbl, List.length_singleton]; omega
    have r3 := fun (g cap2 : Nat) (W : World) (h : Tabs W) (hc : L.length ≤ cap2) (hr : RdB W (some ⟨g, 0, none⟩) L.length L) => quoRead_any (some ⟨g, 0, none⟩) L.length cap2 L W h hr (by omega) hc
    have rv2 : readV L = .tuple #[.string ⟨t.toArray⟩, .int .i64 (k : Int), .int .i64 0] := by
      rw [← hL]; exact readV_of _ t k 0 hrd
    have HL := Lib.hid hL
    rw [rv2] at r3
    have R3 := Lib.hid r3
    have HBL := Lib.hid hbl
    clear r3 rv2 hrd hbl hL
    have kv := fun (W : World) (h : Tabs W) => utfValid_any ⟨t.toArray⟩ W h (by show t.length ≤ _; unfold maxLen; omega)
    rw [show (⟨t.toArray⟩ : ByteArray).data.toList = t from rfl, HVAL.out] at kv
    have KV := Lib.hid kv
    clear kv
    have tt : ((t.length : Int) == (t.length : Int)) = true := by simp
    have tk : ((k : Int) == (k : Int)) = true := by simp
    go_wp2_with (at_builtin; refine wpList_append_conv2 _ rfl _ _ 26 5 rfl w2.heap.size i0 (.int .u8 0) Tryd.underlying26 hi hz0 hz1 hz2 rfl _ [] (l.take k) (hiA A cap) k cap rfl rfl (conv_nil w2) (HRK.out _ y2) (by simp; omega) (by simp) ?_)
    intro v3 w3 hc3 hb3
    have y3 : Below w.heap.size w w3 := y2.trans (hb3.mono c2.size)
    have hr4 : RdB (w3.alloc (.cells #[.int .u8 (u : Int)] 5)) (some ⟨w3.heap.size, 0, none⟩) 1 [UInt8.ofNat u] := by
      have := rdB_new w3 [UInt8.ofNat u] 5 (0, 0)
      rw [HCU.out] at this
      exact this
    have hc4 := hc3.later ((Below.refl _ w3).alloc (Nat.le_refl _) (.cells #[.int .u8 (u : Int)] 5))
    have HR4 := Lib.hid hr4
    have HC4 := Lib.hid hc4
    have hz3 : w2.heap.size ≤ w3.heap.size := by have := hb3.size; rw [World.size_alloc] at this; omega
    clear hr4 hc4 hc3
    go_wp2_with (at_builtin; refine wpList_append_conv2 _ rfl _ _ 26 5 rfl w2.heap.size i0 (.int .u8 0) Tryd.underlying26 hi hz0 hz1 hz2 rfl v3 ([] ++ l.take k) [UInt8.ofNat u] (some ⟨w3.heap.size, 0, none⟩) 1 1 rfl rfl HC4.out HR4.out (by rw [List.nil_append, HBL.out]; omega) (by rw [World.size_alloc]; omega) ?_)
    intro v4 w4 hc4 hb4
    have y4 : Below w.heap.size w w4 := (y3.alloc y3.size _).trans (hb4.mono c2.size)
    have hc5 : Conv w2.heap.size 5 w4 v4 L := by rw [← HL.out]; exact hc4
    clear hc4
    obtain ⟨g, cap4, rfl, hle4, hrd4⟩ := hc5.rd
    have HRD4 := Lib.hid hrd4
    have HLE4 := Lib.hid hle4
    clear hrd4 hle4 hc5
    go_wp2_with (go_at_call 15; refine (R3.out g cap4 _ (HT.out.below y4 (Nat.le_refl _)) HLE4.out HRD4.out).mono ?_)
    rintro e w5 ⟨rfl, b5⟩
    have c5 := y4.trans (b5.mono y4.size)
    go_wp2_with (go_at_call 16; refine (KV.out _ (HT.out.below c5 (Nat.le_refl _))).mono ?_)
    rintro e w6 ⟨rfl, b6⟩
    have c6 := c5.trans (b6.mono c5.size)
    go_wp2
    go_ret
    exact ⟨by simp, c6⟩
  · have de : ((er : Int) == 0) = false := by simp; omega
    obtain ⟨ht, _, h5, h6, h7⟩ := HSTOP.out he
    subst ht
    have hbl : (l.take k).length = k := by rw [List.length_take, HLL.out]; omega
    obtain ⟨L, hL⟩ : ∃ L, l.take k = L := ⟨_, rfl⟩
    have hLl : L.length ≤ 1048577 := by rw [← hL, hbl]; omega
    have r3 := fun (g cap2 : Nat) (W : World) (h : Tabs W) (hc : L.length ≤ cap2) (hr : RdB W (some ⟨g, 0, none⟩) L.length L) => quoRead_any (some ⟨g, 0, none⟩) L.length cap2 L W h hr (by omega) hc
    obtain ⟨t2, h8⟩ : ∃ t2, readP (l.take k) = (t2, k, 5) := ⟨(readP (l.take k)).1, by rw [← h7]; exact Prod.ext rfl (Prod.ext h6 rfl)⟩
    have rv2 : readV L = .tuple #[.string ⟨t2.toArray⟩, .int .i64 (k : Int), .int .i64 5] := by
      rw [← hL]; exact readV_of _ t2 k 5 h8
    have HL := Lib.hid hL
    rw [rv2] at r3
    have R3 := Lib.hid r3
    have HBL := Lib.hid hbl
    have H5 := Lib.hid h5
    have HE := Lib.hid he
    clear r3 rv2 h8 hbl h5 h6 h7 he hL
    have tk : ((k : Int) == (k : Int)) = true := by simp
    go_wp2_with (at_builtin; refine wpList_append_conv2 _ rfl _ _ 26 5 rfl w2.heap.size i0 (.int .u8 0) Tryd.underlying26 hi hz0 hz1 hz2 rfl _ [] (l.take k) (hiA A cap) k cap rfl rfl (conv_nil w2) (HRK.out _ y2) (by simp; omega) (by simp) ?_)
    intro v3 w3 hc3 hb3
    have y3 : Below w.heap.size w w3 := y2.trans (hb3.mono c2.size)
    have hc5 : Conv w2.heap.size 5 w3 v3 L := by rw [← HL.out]; exact hc3
    clear hc3
    obtain ⟨g, cap4, rfl, hle4, hrd4⟩ := hc5.rd
    have HRD4 := Lib.hid hrd4
    have HLE4 := Lib.hid hle4
    clear hrd4 hle4 hc5
    go_wp2_with (go_at_call 15; refine (R3.out g cap4 _ (HT.out.below y3 (Nat.le_refl _)) HLE4.out HRD4.out).mono ?_)
    rintro e w5 ⟨rfl, b5⟩
    have c5 := y3.trans (b5.mono y3.size)
    by_cases h55 : er = 5
    · have d5 : ((er : Int) == 5) = true := by rw [h55]; rfl
      have hkl := H5.out h55
      rw [HLL.out] at hkl
      have dkn : ((k : Int) != (n : Int)) = false := by rw [hkl]; simp
      clear h55 hkl
      go_wp2
      go_ret
      exact ⟨by simp, c5⟩
    · have d5 : ((er : Int) == 5) = false := by simp; omega
      clear h55
      go_wp2
      go_ret
      exact ⟨by simp, c5⟩

end Go.Proofs.YtojapomkmfbciaaDoor
