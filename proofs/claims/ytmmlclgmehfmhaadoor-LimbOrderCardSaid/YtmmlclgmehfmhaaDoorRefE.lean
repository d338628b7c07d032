/-
  The walks of the document's answer for layer 1: Text, Parse, Cut.
-/
import Derived.Test.YtmmlclgmehfmhaaDoorRefD
namespace Go.Proofs.YtmmlclgmehfmhaaDoor
open Go.RowKit

theorem make_b (n c : Nat) (hnc : n ≤ c) (hc : c ≤ 35184372088832) (u : World) : (Instr.makeSlice 28 (.int .i64 (n : Int)) (.int .i64 (c : Int))).run Tryd.prog u = .ok (.slice (some ⟨u.heap.size, 0, none⟩) n c) (u.alloc (.cells (madeCells #[.int .u8 0] c) 5)) := by
  obtain ⟨i0, hi, hz0, hz1, hz2⟩ := info_parts info_u8
  have h := run_make (P := Tryd.prog) u 28 5 i0 (.int .u8 0) Tryd.underlying28 hi hz0 .i64 .i64 (n : Int) (c : Int) (by omega) (by omega) (by rw [hz2]; omega) (by omega)
  simpa [hz1, Value.cells] using h

theorem set_end (R : List Nat) (m z : Nat) : (List.replicate (m + 1) 0 ++ R).set m z = List.replicate m 0 ++ z :: R := by
  rw [List.replicate_succ', List.append_assoc, List.set_append_right m z (by simp)]
  simp

set_option maxHeartbeats 2000000 in
set_option maxRecDepth 100000 in
theorem rtext_any (A : Option Addr) (n cap x : Nat) (w : World) (hR : RdN .u8 w A n (digs 10 x)) (hn : n ≤ 1099511627776) :
    Calls Tryd.prog 33 #[.slice A n cap] w fun e w' => e = .returned (.string ⟨(strD (txt x)).toArray⟩) ∧ Below w.heap.size w w' := by
  have HR := Lib.hid hR
  have HLN := Lib.hid hR.1
  have H9 := Lib.hid (digs_lt 10 (by omega) x)
  clear hR
  by_cases hx : x = 0
  · subst hx
    have hn0 : n = 0 := by have := HLN.out; rw [digs_zero] at this; simpa using this.symm
    subst hn0
    go_enter Tryd.func33, Tryd.ntmps33
    go_wp2
    go_ret
    exact ⟨rfl, Below.refl _ _⟩
  · have hne : n ≠ 0 := by
      intro h
      have := HLN.out
      rw [h] at this
      exact hx ((digs_nil 10 x (by omega)).1 (List.eq_nil_of_length_eq_zero this))
    have HTX := Lib.hid (show txt x = (digs 10 x).reverse by unfold txt; rw [if_neg hx])
    have hmk := make_b n n (Nat.le_refl _) (by omega) w
    have hown0 := OwnN.made8 n w (by unfold maxLen; omega)
    have hbm := below_alloc0 w (.cells (madeCells #[.int .u8 0] n) 5)
    go_enter Tryd.func33, Tryd.ntmps33
    go_wp2
    go_loopw [4] (fun iv wr => ∃ k : Nat, k ≤ n ∧ iv = .int .i64 k ∧ OwnN .u8 5 w.heap.size wr (.slice (some ⟨w.heap.size, 0, none⟩) n n) (List.replicate (n - k) 0 ++ (((digs 10 x).take k).reverse.map (48 + ·))) ∧ Below w.heap.size w wr) (fun iv _ => n - (intOf iv).toNat)
    case atStart => exact ⟨0, Nat.zero_le _, rfl, by simpa using hown0, hbm⟩
    case round =>
      obtain ⟨k, hk, rfl, hown, hb⟩ := hrel
      by_cases hlt : k < n
      · obtain ⟨b1, o1, rfl, hbl1, hcl1⟩ := HR.out.2 (by omega)
        have cx := (hb.cell (p := ⟨b1, o1 + k, none⟩) hbl1).trans (hcl1 k (by omega))
        have hd := getD_lt (by omega) H9.out k
        obtain ⟨m, hm⟩ : ∃ m, n - k = m + 1 := ⟨n - k - 1, by omega⟩
        have HSE := Lib.hid (show ((digs 10 x).take (k + 1)).reverse.map (48 + ·) = (48 + (digs 10 x).getD k 0) :: ((digs 10 x).take k).reverse.map (48 + ·) by
          have h2 : k < (digs 10 x).length := by rw [HLN.out]; exact hlt
          rw [List.take_succ_eq_append_getElem h2, List.reverse_append, List.getD, List.getElem?_eq_getElem h2]; rfl)
        rw [hm] at hown
        have hll : ((((digs 10 x).take k).reverse.map (48 + ·))).length = k := by rw [List.length_map, List.length_reverse, List.length_take, HLN.out]; omega
        obtain ⟨cc, ff⟩ := hown.cellAt (i := m) (by rw [List.length_append, List.length_replicate]; omega)
        have hst := hown.set (i := m) (x := 48 + (digs 10 x).getD k 0) (by rw [List.length_append, List.length_replicate]; omega)
        rw [set_end, ← HSE.out] at hst
        have HST := Lib.hid hst
        have hmi : (n : Int) - 1 - k = m := by omega
        have hm2 : n - (k + 1) = m := by omega
        clear hcl1 hst hown
        generalize (digs 10 x).getD k 0 = d at *
        go_wp2
        go_roundw
        case rel => exact ⟨k + 1, by omega, by go_num, by rw [hm2]; exact HST.out, hb.setCell (Nat.le_refl _) _⟩
        case measure => simp [intOf]; omega
      · obtain rfl : k = n := by omega
        have hl2 : (strD (txt x)).length = k := by rw [strD_len, HTX.out, List.length_reverse]; exact HLN.out
        have hcv : (convert 28 9 (.slice (some ⟨w.heap.size, 0, none⟩) k k)).run Tryd.prog wr = .ok (.string ⟨(strD (txt x)).toArray⟩) wr := by
          have h := run_convert_bytes_back (P := Tryd.prog) wr 28 9 5 ⟨w.heap.size, 0, none⟩ k (strD (txt x)) rfl rfl rfl (fun j hj => by
            have hj2 : j < k := by rw [← hl2]; exact hj
            rw [Nat.sub_self, List.replicate_zero, List.nil_append, List.take_of_length_le (by rw [HLN.out]; exact Nat.le_refl _), ← HTX.out] at hown
            have hlt3 : j < (txt x).length := by rw [← strD_len]; exact hj
            obtain ⟨c4, _⟩ := hown.cellAt (i := j) (by rw [List.length_map]; exact hlt3)
            rw [Lib.add_plain, Nat.zero_add, c4]
            have h9 := txt_lt x _ (List.getElem_mem hlt3)
            simp only [strD, List.getElem_map, List.getD, List.getElem?_map, List.getElem?_eq_getElem hlt3, Option.map_some, Option.getD_some, UInt8.toNat_ofNat']
            congr 3
            omega)
          rw [hl2] at h
          exact h
        go_wp2
        go_ret
        exact ⟨rfl, hb⟩

/-- what the document's Parse answers -/
def IsRParse (s : ByteArray) (w w' : World) (e : Ending) : Prop :=
  (okP (bytesN s) = true ∧ ∃ v, e = .returned (.tuple #[v, .int .i64 0]) ∧ OwnN .u8 5 w.heap.size w' v (digs 10 (dec (digsOf (bytesN s)))) ∧ Below w.heap.size w w') ∨
  (okP (bytesN s) = false ∧ e = .returned (.tuple #[.slice none 0 0, .int .i64 2]) ∧ Below w.heap.size w w')

set_option maxHeartbeats 2000000 in
set_option maxRecDepth 100000 in
theorem rparse_any (s : ByteArray) (w : World) (hs : s.size ≤ 17592186044416) :
    Calls Tryd.prog 22 #[.string s] w fun e w' => IsRParse s w w' e := by
  obtain ⟨i0, hi0, hz0, hz1, hz2⟩ := info_parts info_u8
  by_cases h0 : s.size = 0
  · have hse : s = ⟨#[]⟩ := by
      cases s with | mk a => cases a with | mk l => cases l with
        | nil => rfl
        | cons x l => simp [ByteArray.size] at h0
    subst hse
    go_enter Tryd.func22, Tryd.ntmps22
    go_wp2
    go_ret2
    exact .inr ⟨by decide, rfl, Below.refl _ _⟩
  · have HB := Lib.hid (okP_bad (bytesN s))
    have HG := Lib.hid (okP_good (bytesN s) (by rw [bytesN_len]; exact h0))
    have HLN := Lib.hid (bytesN_len s)
    have HAT := Lib.hid (bytesN_at s)
    have hemp : s.toList.isEmpty = false := by
      rw [Lib.toList_data]
      cases e : s.data.toList with
      | nil => exact absurd (by rw [Lib.size_eq, e]; rfl) h0
      | cons => rfl
    have HSL := Lib.hid (show (digsOf (bytesN s)).length = s.size by unfold digsOf; rw [List.length_map]; exact bytesN_len s)
    go_enter Tryd.func22, Tryd.ntmps22
    go_wp2
    go_loopw [4, 5] (fun v iv wr => ∃ (k : Nat) (acc : List Nat), k ≤ s.size ∧ iv = .int .i64 ((k : Int) - 1) ∧ acc.length ≤ s.size - k ∧ OwnN .u8 5 w.heap.size wr v acc ∧ Hid (acc = ((digsOf (bytesN s)).drop k).reverse) ∧ Hid (∀ j, k ≤ j → j < s.size → 48 ≤ (bytesN s).getD j 0 ∧ (bytesN s).getD j 0 ≤ 57) ∧ Below w.heap.size w wr) (fun _ iv _ => (intOf iv + 1).toNat)
    case atStart => exact ⟨s.size, [], Nat.le_refl _, rfl, by simp, OwnN.nil _ _ _ _, by show _ = _; rw [List.drop_of_length_le (by rw [HSL.out]; exact Nat.le_refl _)]; rfl, fun j h1 h2 => by omega, Below.refl _ _⟩
    case round =>
      obtain ⟨k, acc, hk, rfl, hal, hown, hacc, hv, hb⟩ := hrel
      have hz := hb.size
      by_cases hk0 : k = 0
      · subst hk0
        have HOK := Lib.hid (HG.out (fun j hj => hv.out j (Nat.zero_le _) (by rw [← HLN.out]; exact hj)))
        have HT := Lib.hid (show trimL acc = digs 10 (dec (digsOf (bytesN s))) by
          rw [hacc.out, List.drop_zero, trimL_digs 10 (by omega)]
          · rfl
          · intro z hz
            rw [List.mem_reverse] at hz
            unfold digsOf at hz
            rw [List.mem_map] at hz
            obtain ⟨y, hy, rfl⟩ := hz
            obtain ⟨j, hj, rfl⟩ := List.getElem_of_mem hy
            have := hv.out j (Nat.zero_le _) (by rw [← HLN.out]; exact hj)
            rw [List.getD, List.getElem?_eq_getElem hj] at this
            simp at this
            omega)
        have KT := Lib.hid (fun v (h : OwnN .u8 5 w.heap.size wr v acc) => rtrim_any v w.heap.size acc wr h (by omega))
        clear HB HG hemp
        go_wp2_with (go_at_call 48; refine (KT.out _ hown).mono ?_)
        rintro e w1 ⟨v', rfl, hown', rfl⟩
        go_wp2
        go_ret2
        exact .inl ⟨HOK.out, _, rfl, hown'.asList HT.out, hb⟩
      · obtain ⟨k, rfl⟩ : ∃ q, k = q + 1 := ⟨k - 1, by omega⟩
        have hlt : k < s.size := by omega
        have hx := HAT.out k hlt
        have HBK := Lib.hid (HB.out k (by rw [HLN.out]; exact hlt))
        rw [hx] at HBK
        have HV2 := Lib.hid (show 48 ≤ s[k].toNat ∧ s[k].toNat ≤ 57 → ∀ j, k ≤ j → j < s.size → 48 ≤ (bytesN s).getD j 0 ∧ (bytesN s).getD j 0 ≤ 57 from fun h j hj hj2 => by
          by_cases hjk : j = k
          · subst hjk; rw [hx]; exact h
          · exact hv.out j (by omega) hj2)
        have HA2 := Lib.hid (show acc ++ [s[k].toNat - 48] = ((digsOf (bytesN s)).drop k).reverse by
          have h3 : k < (digsOf (bytesN s)).length := by rw [HSL.out]; exact hlt
          have h4 := digsOf_getD (bytesN s) k (by rw [HLN.out]; exact hlt)
          rw [hx, List.getD, List.getElem?_eq_getElem h3] at h4
          rw [List.drop_eq_getElem_cons h3, List.reverse_cons, hacc.out, ← h4]
          rfl)
        have hkk : ((k + 1 : Nat) : Int) - 1 = k := by omega
        clear hx hv hacc
        by_cases h48 : (s[k].toNat : Int) < 48
        · have HF := Lib.hid (HBK.out (by omega))
          go_wp2
          go_ret2
          exact .inr ⟨HF.out, rfl, hb⟩
        · by_cases h57 : (57 : Int) < s[k].toNat
          · have HF := Lib.hid (HBK.out (by omega))
            go_wp2
            go_ret2
            exact .inr ⟨HF.out, rfl, hb⟩
          · have HF := Lib.hid (HV2.out (by omega))
            have hlit := OwnN.lit .u8 5 wr.heap.size wr (s[k].toNat - 48) (Nat.le_refl _)
            rw [show ((s[k].toNat - 48 : Nat) : Int) = (s[k].toNat : Int) - 48 by omega] at hlit
            have HL := Lib.hid hlit
            clear hlit
            go_wp2_with (at_builtin; refine wpList_append_rd _ rfl _ _ 29 rfl w.heap.size wr.heap.size .u8 5 i0 (.int .u8 0) 1 Tryd.underlying29 hi0 hz0 hz1 hz2 rfl _ _ acc [s[k].toNat - 48] rfl rfl (hown.below (below_alloc0 wr _)) HL.out ?c1 ?c2 ?c3 ?_)
            case c1 => show acc.length + 1 ≤ _; unfold maxLen; omega
            case c2 => omega
            case c3 => first | omega | exact Nat.le_trans hz (below_alloc0 wr _).size
            intro v' w' hown' hgrow
            go_wp2
            go_roundw
            case rel => exact ⟨k, acc ++ [s[k].toNat - 48], by omega, by go_num, by simp; omega, hown', HA2.out, HF.out, (hb.alloc hz _).grown hgrow (Nat.le_trans hz (below_alloc0 wr _).size) (fun q hq => (hown.block_ge q hq).1)⟩
            case measure => simp [intOf]
end Go.Proofs.YtmmlclgmehfmhaaDoor
