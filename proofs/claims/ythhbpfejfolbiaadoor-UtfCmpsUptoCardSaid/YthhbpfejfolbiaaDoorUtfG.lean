/-
  The walk of utf's Encode.
-/
import Derived.Test.YthhbpfejfolbiaaDoorUtfF
namespace Go.Proofs.YthhbpfejfolbiaaDoor
open Go.RowKit

set_option maxHeartbeats 400000 in
theorem utfIs_any (p : Int) (w : World) :
    Calls Tryd.prog 33 #[.int .i64 p] w fun e w' => e = .returned (.bool (isPt p)) ∧ w = w' := by
  go_enter Tryd.func33, Tryd.ntmps33
  go_wp2
  all_goals go_ret
  all_goals refine ⟨isPt_eq _ _ ?_, rfl⟩
  all_goals simp [isPt]
  all_goals omega

theorem utfIs_yes (p : Int) (w : World) (h : isPt p = true) :
    Calls Tryd.prog 33 #[.int .i64 p] w fun e w' => e = .returned (.bool true) ∧ w = w' := by have := utfIs_any p w; rw [h] at this; exact this
theorem utfIs_no (p : Int) (w : World) (h : isPt p = false) :
    Calls Tryd.prog 33 #[.int .i64 p] w fun e w' => e = .returned (.bool false) ∧ w = w' := by have := utfIs_any p w; rw [h] at this; exact this

theorem lim0 (w : World) : (Instr.index 51 (.agg #[.int .i64 128, .int .i64 2048, .int .i64 65536]) (.int .i64 0)).run Tryd.prog w = .ok (.int .i64 128) w := by kernel_rfl
theorem lim1 (w : World) : (Instr.index 51 (.agg #[.int .i64 128, .int .i64 2048, .int .i64 65536]) (.int .i64 1)).run Tryd.prog w = .ok (.int .i64 2048) w := by kernel_rfl
theorem lim2 (w : World) : (Instr.index 51 (.agg #[.int .i64 128, .int .i64 2048, .int .i64 65536]) (.int .i64 2)).run Tryd.prog w = .ok (.int .i64 65536) w := by kernel_rfl

theorem ptBytes_cells (p : Int) (h : isPt p = true) : Lib.byteCells (enc p) = (ptBytes p).map (Value.int .u8) := by
  unfold Lib.byteCells enc
  rw [List.map_map]
  refine List.map_congr_left fun x hx => ?_
  have := ptBytes_byte p h x hx
  simp only [Function.comp, UInt8.toNat_ofNat']
  rw [Nat.mod_eq_of_lt (by omega)]
  congr 1
  omega

theorem and63 (x : Int) (h0 : 0 ≤ x) (h1 : x ≤ 1114111) : bits BinOp.and IntKind.i64 x 63 = x % 64 := by
  obtain ⟨n, rfl⟩ := Int.eq_ofNat_of_zero_le h0
  show IntKind.i64.wrap ((BitVec.ofInt 64 (n : Int) &&& BitVec.ofInt 64 (63 : Int)).toNat : Int) = _
  have e1 : (BitVec.ofInt 64 (n : Int)).toNat = n := by rw [BitVec.ofInt_natCast, BitVec.toNat_ofNat]; exact Nat.mod_eq_of_lt (by omega)
  have e2 : (BitVec.ofInt 64 (63 : Int)).toNat = 2 ^ 6 - 1 := by decide
  rw [BitVec.toNat_and, e1, e2, Nat.and_two_pow_sub_one_eq_mod, IntWalk.i64_in _ (by omega)]
  omega
theorem or128 (y : Int) (h0 : 0 ≤ y) (h1 : y < 64) : bits BinOp.or IntKind.u8 128 y = 128 + y := by
  obtain ⟨n, rfl⟩ := Int.eq_ofNat_of_zero_le h0
  have h : ∀ m : Fin 64, bits BinOp.or IntKind.u8 128 ((m.val : Nat) : Int) = 128 + ((m.val : Nat) : Int) := by decide
  exact h ⟨n, by omega⟩
theorem more_bits (x : Int) (h0 : 0 ≤ x) (h1 : x ≤ 1114111) : bits BinOp.or IntKind.u8 128 (bits BinOp.and IntKind.i64 x 63 % 256) = 128 + x % 64 := by
  rw [and63 x h0 h1, show x % 64 % 256 = x % 64 by omega, or128 _ (by omega) (by omega)]

theorem or0 (y : Int) (h0 : 0 ≤ y) (h1 : y < 128) : bits BinOp.or IntKind.u8 0 y = y := by
  obtain ⟨n, rfl⟩ := Int.eq_ofNat_of_zero_le h0
  have h : ∀ m : Fin 128, bits BinOp.or IntKind.u8 0 ((m.val : Nat) : Int) = ((m.val : Nat) : Int) := by decide
  exact h ⟨n, by omega⟩
theorem own_lit (w : World) (base g : Nat) (e : TypeId) (x : Value) (hg : g = w.heap.size) (hB : base ≤ g) : (w.alloc (.cells #[x] e)).ownsRow base e 1 (.slice (some ⟨g, 0, none⟩) 1 1) 1 [x] := by
  subst hg
  exact ⟨rfl, .inr ⟨w.heap.size, 1, #[x], rfl, hB, heap_alloc_new w _, Nat.le_refl _, by unfold maxLen; omega, rfl, rfl⟩⟩
theorem own_drew {w : World} {base : Nat} {e : TypeId} {size : Nat} {v : Value} {n : Nat} {xs : List Value} (h : w.ownsRow base e size v n xs) : w.drew.ownsRow base e size v n xs := h


set_option maxHeartbeats 1000000 in
set_option maxRecDepth 100000 in
theorem utfEncode_1 (p : Int) (w : World) (hI : isPt p = true) (h1 : p < 128) :
    Calls Tryd.prog 14 #[.int .i64 p] w fun e w' => e = .returned (encVal p) ∧ Below w.heap.size w w' := by
  obtain ⟨i0, hi, hz0, hz1, hz2⟩ := info_parts infoByte
  have l0 := lim0
  have l1 := lim1
  have l2 := lim2
  have hp0 := ((isPt_iff p).1 hI).1
  have hp1 := ((isPt_iff p).1 hI).2.1
  have hL : [Value.int .u8 (p)] = Lib.byteCells (enc p) := by rw [ptBytes_cells p hI]; unfold ptBytes; rw [if_pos (by omega)]; rfl
  have hN : (enc p).length = 1 := by rw [enc_len]; rw [if_pos (by omega)]
  have mz := or0 p hp0 h1
  have m0 := more_bits p hp0 hp1
  have m1 := more_bits (p / 64) (by omega) (by omega)
  have m2 := more_bits (p / 4096) (by omega) (by omega)
  have HL := Lib.hid hL
  have HN := Lib.hid hN
  have HI := Lib.hid hI
  clear hI hL hN
  go_enter Tryd.func14, Tryd.ntmps14
  go_wp2_with (go_at_call 33; refine (utfIs_yes _ _ HI.out).mono ?_; rintro e w' ⟨rfl, rfl⟩)
  go_rounds 4
  go_region
  all_goals go_wp2
  go_loopw [8, 9] (fun v a wr => ((a = .int .i64 (-1) ∧ wr.ownsRow w.heap.size 5 1 v 1 [.int .u8 (p)])) ∧ Below w.heap.size w wr) (fun _ a _ => (intOf a + 1).toNat)
  case atStart => exact ⟨⟨rfl, own_drew (own_lit _ _ _ _ _ (by simp) (Nat.le_succ _))⟩, (((Below.refl _ _).alloc (Nat.le_refl _) _).alloc (by simp) _).drew⟩
  case round =>
    obtain ⟨⟨rfl, hown⟩, hb⟩ := hrel
    · have hcv : ∀ dst, Tryd.prog.underlying dst = some .string → (convert 52 dst _).run Tryd.prog wr = .ok (.string ⟨(enc p).toArray⟩) wr := fun dst hd => conv_own (by rw [← HL.out, HN.out]; exact hown) Tryd.underlying52 Tryd.underlying5 hd
      have hcv' := hcv _ Tryd.underlying9
      clear hcv
      go_wp2
      go_ret2
      exact ⟨congrArg _ (encVal_yes p HI.out), hb⟩

set_option maxHeartbeats 1000000 in
set_option maxRecDepth 100000 in
theorem utfEncode_2 (p : Int) (w : World) (hI : isPt p = true) (h1 : 128 ≤ p) (h2 : p < 2048) :
    Calls Tryd.prog 14 #[.int .i64 p] w fun e w' => e = .returned (encVal p) ∧ Below w.heap.size w w' := by
  obtain ⟨i0, hi, hz0, hz1, hz2⟩ := info_parts infoByte
  have l0 := lim0
  have l1 := lim1
  have l2 := lim2
  have hp0 := ((isPt_iff p).1 hI).1
  have hp1 := ((isPt_iff p).1 hI).2.1
  have hL : [Value.int .u8 (192 + p / 64), Value.int .u8 (128 + p % 64)] = Lib.byteCells (enc p) := by rw [ptBytes_cells p hI]; unfold ptBytes; rw [if_neg (by omega), if_pos (by omega)]; rfl
  have hN : (enc p).length = 2 := by rw [enc_len]; rw [if_neg (by omega), if_pos (by omega)]
  have m0 := more_bits p hp0 hp1
  have m1 := more_bits (p / 64) (by omega) (by omega)
  have m2 := more_bits (p / 4096) (by omega) (by omega)
  have HL := Lib.hid hL
  have HN := Lib.hid hN
  have HI := Lib.hid hI
  clear hI hL hN
  go_enter Tryd.func14, Tryd.ntmps14
  go_wp2_with (go_at_call 33; refine (utfIs_yes _ _ HI.out).mono ?_; rintro e w' ⟨rfl, rfl⟩)
  go_rounds 4
  go_region
  all_goals go_wp2
  go_loopw [8, 9] (fun v a wr => ((a = .int .i64 (0) ∧ wr.ownsRow w.heap.size 5 1 v 1 [.int .u8 (192 + p / 64)]) ∨ (a = .int .i64 (-1) ∧ wr.ownsRow w.heap.size 5 1 v 2 [.int .u8 (192 + p / 64), .int .u8 (128 + p % 64)])) ∧ Below w.heap.size w wr) (fun _ a _ => (intOf a + 1).toNat)
  case atStart => exact ⟨.inl ⟨rfl, own_drew (own_lit _ _ _ _ _ (by simp) (Nat.le_succ _))⟩, (((Below.refl _ _).alloc (Nat.le_refl _) _).alloc (by simp) _).drew⟩
  case round =>
    obtain ⟨⟨rfl, hown⟩ | ⟨rfl, hown⟩, hb⟩ := hrel
    · have hsz0 := hb.size
      go_wp2_with (at_builtin; refine wpList_append_own _ rfl _ _ 52 rfl w.heap.size 5 i0 (.int .u8 0) 1 1 Tryd.underlying52 hi hz0 hz1 hz2 rfl (by decide) _ _ _ rfl (hown.alloc _) ⟨wr.heap.size, 0, none⟩ 1 1 [.int .u8 (128 + p % 64)] rfl rfl ?c1 ?c2 ?c3 ?c4 ?c5 ?_)
      case c1 => exact cell_one_new _ _ _
      case c2 => intro u hu; simp at hu; subst hu; rfl
      case c3 => unfold maxLen; omega
      case c4 => omega
      case c5 => simp; omega
      intro v' w2 hown' hgrow _
      have hb2 := (hb.alloc hsz0 _).grown hgrow (by simp; omega) (fun j hj => (hown.lt j hj).1)
      go_wp2
      go_roundw
      case rel => exact ⟨(.inr ⟨rfl, hown'⟩), hb2⟩
      case measure => simp [intOf]
    · have hcv : ∀ dst, Tryd.prog.underlying dst = some .string → (convert 52 dst _).run Tryd.prog wr = .ok (.string ⟨(enc p).toArray⟩) wr := fun dst hd => conv_own (by rw [← HL.out, HN.out]; exact hown) Tryd.underlying52 Tryd.underlying5 hd
      have hcv' := hcv _ Tryd.underlying9
      clear hcv
      go_wp2
      go_ret2
      exact ⟨congrArg _ (encVal_yes p HI.out), hb⟩

set_option maxHeartbeats 1000000 in
set_option maxRecDepth 100000 in
theorem utfEncode_3 (p : Int) (w : World) (hI : isPt p = true) (h1 : 2048 ≤ p) (h2 : p < 65536) :
    Calls Tryd.prog 14 #[.int .i64 p] w fun e w' => e = .returned (encVal p) ∧ Below w.heap.size w w' := by
  obtain ⟨i0, hi, hz0, hz1, hz2⟩ := info_parts infoByte
  have l0 := lim0
  have l1 := lim1
  have l2 := lim2
  have hp0 := ((isPt_iff p).1 hI).1
  have hp1 := ((isPt_iff p).1 hI).2.1
  have hL : [Value.int .u8 (224 + p / 4096), Value.int .u8 (128 + p / 64 % 64), Value.int .u8 (128 + p % 64)] = Lib.byteCells (enc p) := by rw [ptBytes_cells p hI]; unfold ptBytes; rw [if_neg (by omega), if_neg (by omega), if_pos (by omega)]; rfl
  have hN : (enc p).length = 3 := by rw [enc_len]; rw [if_neg (by omega), if_neg (by omega), if_pos (by omega)]
  have m0 := more_bits p hp0 hp1
  have m1 := more_bits (p / 64) (by omega) (by omega)
  have m2 := more_bits (p / 4096) (by omega) (by omega)
  have HL := Lib.hid hL
  have HN := Lib.hid hN
  have HI := Lib.hid hI
  clear hI hL hN
  go_enter Tryd.func14, Tryd.ntmps14
  go_wp2_with (go_at_call 33; refine (utfIs_yes _ _ HI.out).mono ?_; rintro e w' ⟨rfl, rfl⟩)
  go_rounds 4
  go_region
  all_goals go_wp2
  go_loopw [8, 9] (fun v a wr => ((a = .int .i64 (1) ∧ wr.ownsRow w.heap.size 5 1 v 1 [.int .u8 (224 + p / 4096)]) ∨ (a = .int .i64 (0) ∧ wr.ownsRow w.heap.size 5 1 v 2 [.int .u8 (224 + p / 4096), .int .u8 (128 + p / 64 % 64)]) ∨ (a = .int .i64 (-1) ∧ wr.ownsRow w.heap.size 5 1 v 3 [.int .u8 (224 + p / 4096), .int .u8 (128 + p / 64 % 64), .int .u8 (128 + p % 64)])) ∧ Below w.heap.size w wr) (fun _ a _ => (intOf a + 1).toNat)
  case atStart => exact ⟨.inl ⟨rfl, own_drew (own_lit _ _ _ _ _ (by simp) (Nat.le_succ _))⟩, (((Below.refl _ _).alloc (Nat.le_refl _) _).alloc (by simp) _).drew⟩
  case round =>
    obtain ⟨⟨rfl, hown⟩ | ⟨rfl, hown⟩ | ⟨rfl, hown⟩, hb⟩ := hrel
    · have hsz0 := hb.size
      go_wp2_with (at_builtin; refine wpList_append_own _ rfl _ _ 52 rfl w.heap.size 5 i0 (.int .u8 0) 1 1 Tryd.underlying52 hi hz0 hz1 hz2 rfl (by decide) _ _ _ rfl (hown.alloc _) ⟨wr.heap.size, 0, none⟩ 1 1 [.int .u8 (128 + p / 64 % 64)] rfl rfl ?c1 ?c2 ?c3 ?c4 ?c5 ?_)
      case c1 => exact cell_one_new _ _ _
      case c2 => intro u hu; simp at hu; subst hu; rfl
      case c3 => unfold maxLen; omega
      case c4 => omega
      case c5 => simp; omega
      intro v' w2 hown' hgrow _
      have hb2 := (hb.alloc hsz0 _).grown hgrow (by simp; omega) (fun j hj => (hown.lt j hj).1)
      go_wp2
      go_roundw
      case rel => exact ⟨(.inr (.inl ⟨rfl, hown'⟩)), hb2⟩
      case measure => simp [intOf]
    · have hsz0 := hb.size
      go_wp2_with (at_builtin; refine wpList_append_own _ rfl _ _ 52 rfl w.heap.size 5 i0 (.int .u8 0) 1 1 Tryd.underlying52 hi hz0 hz1 hz2 rfl (by decide) _ _ _ rfl (hown.alloc _) ⟨wr.heap.size, 0, none⟩ 1 1 [.int .u8 (128 + p % 64)] rfl rfl ?c1 ?c2 ?c3 ?c4 ?c5 ?_)
      case c1 => exact cell_one_new _ _ _
      case c2 => intro u hu; simp at hu; subst hu; rfl
      case c3 => unfold maxLen; omega
      case c4 => omega
      case c5 => simp; omega
      intro v' w2 hown' hgrow _
      have hb2 := (hb.alloc hsz0 _).grown hgrow (by simp; omega) (fun j hj => (hown.lt j hj).1)
      go_wp2
      go_roundw
      case rel => exact ⟨(.inr (.inr ⟨rfl, hown'⟩)), hb2⟩
      case measure => simp [intOf]
    · have hcv : ∀ dst, Tryd.prog.underlying dst = some .string → (convert 52 dst _).run Tryd.prog wr = .ok (.string ⟨(enc p).toArray⟩) wr := fun dst hd => conv_own (by rw [← HL.out, HN.out]; exact hown) Tryd.underlying52 Tryd.underlying5 hd
      have hcv' := hcv _ Tryd.underlying9
      clear hcv
      go_wp2
      go_ret2
      exact ⟨congrArg _ (encVal_yes p HI.out), hb⟩

set_option maxHeartbeats 1000000 in
set_option maxRecDepth 100000 in
theorem utfEncode_4 (p : Int) (w : World) (hI : isPt p = true) (h1 : 65536 ≤ p) :
    Calls Tryd.prog 14 #[.int .i64 p] w fun e w' => e = .returned (encVal p) ∧ Below w.heap.size w w' := by
  obtain ⟨i0, hi, hz0, hz1, hz2⟩ := info_parts infoByte
  have l0 := lim0
  have l1 := lim1
  have l2 := lim2
  have hp0 := ((isPt_iff p).1 hI).1
  have hp1 := ((isPt_iff p).1 hI).2.1
  have hL : [Value.int .u8 (240 + p / 262144), Value.int .u8 (128 + p / 4096 % 64), Value.int .u8 (128 + p / 64 % 64), Value.int .u8 (128 + p % 64)] = Lib.byteCells (enc p) := by rw [ptBytes_cells p hI]; unfold ptBytes; rw [if_neg (by omega), if_neg (by omega), if_neg (by omega)]; rfl
  have hN : (enc p).length = 4 := by rw [enc_len]; rw [if_neg (by omega), if_neg (by omega), if_neg (by omega)]
  have m0 := more_bits p hp0 hp1
  have m1 := more_bits (p / 64) (by omega) (by omega)
  have m2 := more_bits (p / 4096) (by omega) (by omega)
  have HL := Lib.hid hL
  have HN := Lib.hid hN
  have HI := Lib.hid hI
  clear hI hL hN
  go_enter Tryd.func14, Tryd.ntmps14
  go_wp2_with (go_at_call 33; refine (utfIs_yes _ _ HI.out).mono ?_; rintro e w' ⟨rfl, rfl⟩)
  go_rounds 4
  go_region
  all_goals go_wp2
  go_loopw [8, 9] (fun v a wr => ((a = .int .i64 (2) ∧ wr.ownsRow w.heap.size 5 1 v 1 [.int .u8 (240 + p / 262144)]) ∨ (a = .int .i64 (1) ∧ wr.ownsRow w.heap.size 5 1 v 2 [.int .u8 (240 + p / 262144), .int .u8 (128 + p / 4096 % 64)]) ∨ (a = .int .i64 (0) ∧ wr.ownsRow w.heap.size 5 1 v 3 [.int .u8 (240 + p / 262144), .int .u8 (128 + p / 4096 % 64), .int .u8 (128 + p / 64 % 64)]) ∨ (a = .int .i64 (-1) ∧ wr.ownsRow w.heap.size 5 1 v 4 [.int .u8 (240 + p / 262144), .int .u8 (128 + p / 4096 % 64), .int .u8 (128 + p / 64 % 64), .int .u8 (128 + p % 64)])) ∧ Below w.heap.size w wr) (fun _ a _ => (intOf a + 1).toNat)
  case atStart => exact ⟨.inl ⟨rfl, own_drew (own_lit _ _ _ _ _ (by simp) (Nat.le_succ _))⟩, (((Below.refl _ _).alloc (Nat.le_refl _) _).alloc (by simp) _).drew⟩
  case round =>
    obtain ⟨⟨rfl, hown⟩ | ⟨rfl, hown⟩ | ⟨rfl, hown⟩ | ⟨rfl, hown⟩, hb⟩ := hrel
    · have hsz0 := hb.size
      go_wp2_with (at_builtin; refine wpList_append_own _ rfl _ _ 52 rfl w.heap.size 5 i0 (.int .u8 0) 1 1 Tryd.underlying52 hi hz0 hz1 hz2 rfl (by decide) _ _ _ rfl (hown.alloc _) ⟨wr.heap.size, 0, none⟩ 1 1 [.int .u8 (128 + p / 4096 % 64)] rfl rfl ?c1 ?c2 ?c3 ?c4 ?c5 ?_)
      case c1 => exact cell_one_new _ _ _
      case c2 => intro u hu; simp at hu; subst hu; rfl
      case c3 => unfold maxLen; omega
      case c4 => omega
      case c5 => simp; omega
      intro v' w2 hown' hgrow _
      have hb2 := (hb.alloc hsz0 _).grown hgrow (by simp; omega) (fun j hj => (hown.lt j hj).1)
      go_wp2
      go_roundw
      case rel => exact ⟨(.inr (.inl ⟨rfl, hown'⟩)), hb2⟩
      case measure => simp [intOf]
    · have hsz0 := hb.size
      go_wp2_with (at_builtin; refine wpList_append_own _ rfl _ _ 52 rfl w.heap.size 5 i0 (.int .u8 0) 1 1 Tryd.underlying52 hi hz0 hz1 hz2 rfl (by decide) _ _ _ rfl (hown.alloc _) ⟨wr.heap.size, 0, none⟩ 1 1 [.int .u8 (128 + p / 64 % 64)] rfl rfl ?c1 ?c2 ?c3 ?c4 ?c5 ?_)
      case c1 => exact cell_one_new _ _ _
      case c2 => intro u hu; simp at hu; subst hu; rfl
      case c3 => unfold maxLen; omega
      case c4 => omega
      case c5 => simp; omega
      intro v' w2 hown' hgrow _
      have hb2 := (hb.alloc hsz0 _).grown hgrow (by simp; omega) (fun j hj => (hown.lt j hj).1)
      go_wp2
      go_roundw
      case rel => exact ⟨(.inr (.inr (.inl ⟨rfl, hown'⟩))), hb2⟩
      case measure => simp [intOf]
    · have hsz0 := hb.size
      go_wp2_with (at_builtin; refine wpList_append_own _ rfl _ _ 52 rfl w.heap.size 5 i0 (.int .u8 0) 1 1 Tryd.underlying52 hi hz0 hz1 hz2 rfl (by decide) _ _ _ rfl (hown.alloc _) ⟨wr.heap.size, 0, none⟩ 1 1 [.int .u8 (128 + p % 64)] rfl rfl ?c1 ?c2 ?c3 ?c4 ?c5 ?_)
      case c1 => exact cell_one_new _ _ _
      case c2 => intro u hu; simp at hu; subst hu; rfl
      case c3 => unfold maxLen; omega
      case c4 => omega
      case c5 => simp; omega
      intro v' w2 hown' hgrow _
      have hb2 := (hb.alloc hsz0 _).grown hgrow (by simp; omega) (fun j hj => (hown.lt j hj).1)
      go_wp2
      go_roundw
      case rel => exact ⟨(.inr (.inr (.inr ⟨rfl, hown'⟩))), hb2⟩
      case measure => simp [intOf]
    · have hcv : ∀ dst, Tryd.prog.underlying dst = some .string → (convert 52 dst _).run Tryd.prog wr = .ok (.string ⟨(enc p).toArray⟩) wr := fun dst hd => conv_own (by rw [← HL.out, HN.out]; exact hown) Tryd.underlying52 Tryd.underlying5 hd
      have hcv' := hcv _ Tryd.underlying9
      clear hcv
      go_wp2
      go_ret2
      exact ⟨congrArg _ (encVal_yes p HI.out), hb⟩

set_option maxHeartbeats 400000 in
set_option maxRecDepth 100000 in
theorem utfEncode_no (p : Int) (w : World) (hI : isPt p = false) :
    Calls Tryd.prog 14 #[.int .i64 p] w fun e w' => e = .returned (encVal p) ∧ Below w.heap.size w w' := by
  have HI := Lib.hid hI
  clear hI
  go_enter Tryd.func14, Tryd.ntmps14
  go_wp2_with (go_at_call 33; refine (utfIs_no _ _ HI.out).mono ?_; rintro e w' ⟨rfl, rfl⟩)
  go_ret2
  exact ⟨congrArg _ (encVal_no p HI.out), Below.refl _ _⟩

/-- utf's Encode, at every number. -/
theorem utfEncode_any (p : Int) (w : World) :
    Calls Tryd.prog 14 #[.int .i64 p] w fun e w' => e = .returned (encVal p) ∧ Below w.heap.size w w' := by
  cases hI : isPt p
  · exact utfEncode_no p w hI
  by_cases h1 : p < 128
  · exact utfEncode_1 p w hI h1
  by_cases h2 : p < 2048
  · exact utfEncode_2 p w hI (by omega) h2
  by_cases h3 : p < 65536
  · exact utfEncode_3 p w hI (by omega) h3
  · exact utfEncode_4 p w hI (by omega)

end Go.Proofs.YthhbpfejfolbiaaDoor
