/-
  The walks of the document's answer for layer 1: Sub, Shift, From, To.
-/
import Derived.Test.YtmmlclgmehfmhaaDoorRefB
namespace Go.Proofs.YtmmlclgmehfmhaaDoor
open Go.RowKit

set_option maxHeartbeats 2000000 in
set_option maxRecDepth 100000 in
theorem rsub_any (x y : Nat) (A A2 : Option Addr) (n cap n2 cap2 : Nat) (w : World) (hR : RdN .u8 w A n (digs 10 x)) (hR2 : RdN .u8 w A2 n2 (digs 10 y)) (hn : n ≤ 1099511627776) (hn2 : n2 ≤ 1099511627776) (hxy : y ≤ x) :
    Calls Tryd.prog 31 #[.slice A n cap, .slice A2 n2 cap2] w fun e w' => IsRef (x - y) w w' e := by
  obtain ⟨i0, hi0, hz0, hz1, hz2⟩ := info_parts info_u8
  have HR := Lib.hid hR
  have HR2 := Lib.hid hR2
  have HL1 := Lib.hid hR.1
  have HMN := Lib.hid (digs_mono 10 (by omega) y x hxy)
  have H9 := Lib.hid (digs_lt 10 (by omega) x)
  have H92 := Lib.hid (digs_lt 10 (by omega) y)
  have HV1 := Lib.hid (val_digs 10 (by omega) x)
  have HV2 := Lib.hid (val_digs 10 (by omega) y)
  have HXY := Lib.hid hxy
  clear hR hR2 hxy
  generalize digs 10 x = l at *
  generalize digs 10 y = l2 at *
  go_enter Tryd.func31, Tryd.ntmps31
  go_wp2
  go_loopw [5, 6, 7] (fun v cv iv wr => ∃ (k c : Nat) (acc : List Nat), iv = .int .i64 k ∧ cv = .int .i64 c ∧ c ≤ 1 ∧ k ≤ n ∧ acc.length = k ∧ OwnN .u8 5 w.heap.size wr v acc ∧ Hid (BorB 10 l l2 k c acc) ∧ Below w.heap.size w wr) (fun _ _ iv _ => n - (intOf iv).toNat)
  case atStart => exact ⟨0, 0, [], rfl, rfl, by omega, by omega, rfl, OwnN.nil _ _ _ _, BorB.zero _ _ _, Below.refl _ _⟩
  case round =>
    obtain ⟨k, c, acc, rfl, rfl, hc1, hk, hal, hown, hbor, hb⟩ := hrel
    have hz := hb.size
    by_cases hlt : k < n
    · have KB := Lib.hid (fun j : Nat => quiet_left (rdig_any A2 n2 cap2 l2 k (wr.drewN j) ((HR2.out.below hb).drewN j) (by omega) (fun z hz => by have := H92.out z hz; omega)))
      obtain ⟨b1, o1, rfl, hbl1, hcl1⟩ := HR.out.2 (by omega)
      have cx := (hb.cell (p := ⟨b1, o1 + k, none⟩) hbl1).trans (hcl1 k (by omega))
      have hx := getD_lt (by omega) H9.out k
      have hy := getD_lt (by omega) H92.out k
      have HS := Lib.hid (fun b2 d => hbor.out.step b2 d)
      clear hcl1 hbor
      generalize l.getD k 0 = x1 at *
      generalize l2.getD k 0 = y1 at *
      by_cases hd : (x1 : Int) - y1 - c < 0
      · have HC := Lib.hid (HS.out 1 (x1 + 10 - y1 - c) (by omega) (by omega))
        have hlit := OwnN.lit .u8 5 wr.heap.size wr (x1 + 10 - y1 - c) (Nat.le_refl _)
        rw [show ((x1 + 10 - y1 - c : Nat) : Int) = (x1 : Int) - y1 - c + 10 by omega] at hlit
        have HL := Lib.hid hlit
        clear hlit HS
        go_wp2
        go_quiet ((go_at_call 56; with_reducible exact KB.out _))
        go_wp2_with (at_builtin; refine wpList_append_rd _ rfl _ _ 29 rfl w.heap.size wr.heap.size .u8 5 i0 (.int .u8 0) 1 Tryd.underlying29 hi0 hz0 hz1 hz2 rfl _ _ acc [x1 + 10 - y1 - c] rfl rfl (OwnN.drewN (hown.below (below_alloc0 wr _)) nq) (OwnN.drewN HL.out nq) ?c1 ?c2 ?c3 ?_)
        case c1 => show acc.length + 1 ≤ _; unfold maxLen; omega
        case c2 => show (acc.length + 1) * 1 ≤ _; omega
        case c3 => first | omega | exact Nat.le_trans hz (below_alloc0 wr _).size
        intro v' w' hown' hgrow
        go_wp2
        go_roundw
        case rel => exact ⟨k + 1, 1, acc ++ [x1 + 10 - y1 - c], by go_num, rfl, by omega, by omega, by simp; omega, hown', HC.out, ((hb.alloc hz _).trans (below_drewN (Below.refl _ _) nq)).grown hgrow (Nat.le_trans hz (below_alloc0 wr _).size) (fun q hq => (hown.block_ge q hq).1)⟩
        case measure => simp [intOf]; omega
      · have HC := Lib.hid (HS.out 0 (x1 - y1 - c) (by omega) (by omega))
        have hlit := OwnN.lit .u8 5 wr.heap.size wr (x1 - y1 - c) (Nat.le_refl _)
        rw [show ((x1 - y1 - c : Nat) : Int) = (x1 : Int) - y1 - c by omega] at hlit
        have HL := Lib.hid hlit
        clear hlit HS
        go_wp2
        go_quiet ((go_at_call 56; with_reducible exact KB.out _))
        go_wp2_with (at_builtin; refine wpList_append_rd _ rfl _ _ 29 rfl w.heap.size wr.heap.size .u8 5 i0 (.int .u8 0) 1 Tryd.underlying29 hi0 hz0 hz1 hz2 rfl _ _ acc [x1 - y1 - c] rfl rfl (OwnN.drewN (hown.below (below_alloc0 wr _)) nq) (OwnN.drewN HL.out nq) ?c1 ?c2 ?c3 ?_)
        case c1 => show acc.length + 1 ≤ _; unfold maxLen; omega
        case c2 => show (acc.length + 1) * 1 ≤ _; omega
        case c3 => first | omega | exact Nat.le_trans hz (below_alloc0 wr _).size
        intro v' w' hown' hgrow
        go_wp2
        go_roundw
        case rel => exact ⟨k + 1, 0, acc ++ [x1 - y1 - c], by go_num, rfl, by omega, by omega, by simp; omega, hown', HC.out, ((hb.alloc hz _).trans (below_drewN (Below.refl _ _) nq)).grown hgrow (Nat.le_trans hz (below_alloc0 wr _).size) (fun q hq => (hown.block_ge q hq).1)⟩
        case measure => simp [intOf]; omega
    · obtain rfl : k = n := by omega
      have HS := Lib.hid (show trimL acc = digs 10 (x - y) by
        have h1 := hbor.out
        rw [← HL1.out] at h1
        have := h1.done (by omega) HMN.out (by rw [HV1.out, HV2.out]; exact HXY.out)
        rw [HV1.out, HV2.out] at this
        exact this)
      have KT := Lib.hid (fun v (h : OwnN .u8 5 w.heap.size wr v acc) => rtrim_any v w.heap.size acc wr h (by omega))
      go_wp2_with (go_at_call 48; refine (KT.out _ hown).mono ?_)
      rintro e w1 ⟨v', rfl, hown', rfl⟩
      go_wp2
      go_ret
      exact ⟨_, rfl, hown'.asList HS.out, hb⟩

set_option maxHeartbeats 1000000 in
set_option maxRecDepth 100000 in
theorem rshift_any (v : Value) (base x m : Nat) (w : World) (hown : OwnN .u8 5 base w v (digs 10 x)) (hx : (digs 10 x).length ≤ 1099511627776) (hm : m ≤ 1099511627776) :
    Calls Tryd.prog 40 #[v, .int .i64 m] w fun e w' => IsRef (x * 10 ^ m) w w' e := by
  obtain ⟨i0, hi0, hz0, hz1, hz2⟩ := info_parts info_u8
  have HU := Lib.hid (fun h => digs_up 10 (by omega) m x h)
  by_cases h0 : x = 0
  · subst h0
    rw [digs_zero] at hown
    rw [Nat.zero_mul]
    obtain ⟨B1, c1, rfl, _, _, _⟩ := hown.rd
    go_enter Tryd.func40, Tryd.ntmps40
    go_wp2
    go_ret
    exact ⟨_, rfl, by rw [digs_zero]; exact OwnN.nil _ _ _ _, Below.refl _ _⟩
  · have hne : (digs 10 x).length ≠ 0 := fun h => h0 ((digs_nil 10 x (by omega)).1 (List.eq_nil_of_length_eq_zero h))
    have HX := Lib.hid (HU.out h0)
    have hmk := make_u8 m m (Nat.le_refl _) (by omega) w
    have hown0 := OwnN.made8 m w (by unfold maxLen; omega)
    rw [Nat.mul_comm] at HX
    clear HU
    generalize digs 10 x = D at *
    have hown1 := hown
    obtain ⟨B1, c1, rfl, _, _, _⟩ := hown.rd
    go_enter Tryd.func40, Tryd.ntmps40
    go_wp2_with (at_builtin; refine wpList_append_rd _ rfl _ _ 29 rfl w.heap.size base .u8 5 i0 (.int .u8 0) 1 Tryd.underlying29 hi0 hz0 hz1 hz2 rfl _ _ (List.replicate m 0) D rfl rfl hown0 (hown1.below (below_alloc0 w _)) ?c1 ?c2 ?c3 ?_)
    case c1 => rw [List.length_replicate]; unfold maxLen; omega
    case c2 => rw [List.length_replicate]; omega
    case c3 => first | omega | exact (below_alloc0 w _).size
    intro v' w' hown' hgrow
    go_wp2
    go_ret
    refine ⟨_, rfl, hown'.asList HX.out.symm, (below_alloc0 w _).grown hgrow (below_alloc0 w _).size (fun q hq => ?_)⟩
    have : w.heap.size = q := by simpa [Value.ownBlock] using hq
    omega
end Go.Proofs.YtmmlclgmehfmhaaDoor
