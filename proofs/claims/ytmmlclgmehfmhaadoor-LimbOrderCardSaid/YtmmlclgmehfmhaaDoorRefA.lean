/-
  The walks of the document's answer for layer 1: trim, digit, Same, Cmp, Small.
-/
import Derived.Test.YtmmlclgmehfmhaaDoorLimR
namespace Go.Proofs.YtmmlclgmehfmhaaDoor
open Go.RowKit

theorem info_u8 : (Tryd.prog.info? 5).map (fun i => (i.zero, i.size, i.bytes)) = some (some (.int .u8 0), 1, 1) := by kernel_rfl

/-- what a call answers that makes a number of the document's -/
def IsRef (x : Nat) (w w' : World) (e : Ending) : Prop := ∃ v, e = .returned v ∧ OwnN .u8 5 w.heap.size w' v (digs 10 x) ∧ Below w.heap.size w w'

set_option maxHeartbeats 1000000 in
set_option maxRecDepth 100000 in
theorem rtrim_any (v : Value) (base : Nat) (l : List Nat) (w : World) (hown : OwnN .u8 5 base w v l) (hn : l.length ≤ 9223372036854775807) :
    Calls Tryd.prog 48 #[v] w fun e w' => ∃ v', e = .returned v' ∧ OwnN .u8 5 base w v' (trimL l) ∧ w = w' := by
  rcases hown.rd' with ⟨rfl, rfl⟩ | ⟨g, cap, rfl, hrd⟩
  · go_enter Tryd.func48, Tryd.ntmps48
    go_wp2
    go_rounds 1
    go_ret
    exact ⟨_, rfl, hown, rfl⟩
  · have hcap : l.length ≤ cap := by
      obtain ⟨A', cap', hv', h, _, _⟩ := hown.rd
      injection hv' with _ _ e3
      omega
    have HR := Lib.hid hrd
    have HO := Lib.hid hown
    clear hrd hown
    generalize hln : l.length = n at *
    have HLN := Lib.hid hln
    clear hln
    go_enter Tryd.func48, Tryd.ntmps48
    go_wp2
    go_loop [3] (fun iv => ∃ m : Nat, m ≤ n ∧ iv = .int .i64 m ∧ Hid (trimL (l.take m) = trimL l)) (fun iv => (intOf iv).toNat)
    case atStart => exact ⟨n, Nat.le_refl _, rfl, by show _ = _; rw [List.take_of_length_le (by rw [HLN.out]; omega)]⟩
    case round =>
      obtain ⟨m, hm, rfl, hv⟩ := hrel
      by_cases h0 : m = 0
      · subst h0
        have HZ := Lib.hid (HO.out.cut (m := 0) (Nat.zero_le _))
        have HT := Lib.hid (show l.take 0 = trimL l by rw [← hv.out]; rfl)
        go_wp2
        go_ret
        exact ⟨_, rfl, HZ.out.asList HT.out, rfl⟩
      · obtain ⟨m, rfl⟩ : ∃ k, m = k + 1 := ⟨m - 1, by omega⟩
        obtain ⟨b, off, e1, hbl, hcell⟩ := HR.out.2 (by omega)
        injection e1 with e1
        injection e1 with e1 e2
        subst e1 e2
        have c1 := hcell m (by omega)
        rw [Nat.zero_add] at c1
        have H0 := Lib.hid (trimL_step0 l m (by rw [HLN.out]; omega))
        have H1 := Lib.hid (trimL_step1 l m (by rw [HLN.out]; omega))
        clear hcell
        generalize l.getD m 0 = x at c1 H0 H1
        have hmm : ((m + 1 : Nat) : Int) - 1 = m := by omega
        by_cases hx : x = 0
        · have hx' : ((x : Int) == 0) = true := by rw [hx]; rfl
          have HX := Lib.hid hx
          clear hx
          go_wp2
          go_round
          case rel => exact ⟨m, by omega, by go_num, by show _ = _; rw [← H0.out HX.out]; exact hv.out⟩
          case measure => simp [intOf]
        · have hx' : ((x : Int) == 0) = false := by simp; omega
          have HX := Lib.hid hx
          clear hx
          have HC := Lib.hid (HO.out.cut (m := m + 1) (by rw [HLN.out]; exact hm))
          go_wp2
          go_ret
          exact ⟨_, rfl, HC.out.asList (by rw [← hv.out, H1.out HX.out]), rfl⟩

set_option maxHeartbeats 400000 in
theorem rdig_any (A : Option Addr) (n cap : Nat) (l : List Nat) (i : Nat) (w : World) (hR : RdN .u8 w A n l) (hn : n ≤ 9223372036854775807) (hl : ∀ x ∈ l, x < 256) :
    Calls Tryd.prog 56 #[.slice A n cap, .int .i64 i] w fun e w' => e = .returned (.int .i64 (l.getD i 0 : Nat)) ∧ w = w' := by
  obtain ⟨hlen, hat⟩ := hR
  by_cases h : i < n
  · obtain ⟨b, off, rfl, hbl, hcell⟩ := hat (by omega)
    have c1 := hcell i h
    have hx : l.getD i 0 < 256 := hl _ (by rw [List.getD, List.getElem?_eq_getElem (by omega)]; exact List.getElem_mem _)
    clear hcell hat hlen
    generalize l.getD i 0 = x at c1 hx
    have hx' : (x : Int) < 256 := by omega
    go_enter Tryd.func56, Tryd.ntmps56
    go_wp2
    go_ret
    exact ⟨rfl, rfl⟩
  · have e : l.getD i 0 = 0 := by rw [List.getD, List.getElem?_eq_none (by omega)]; rfl
    rw [e]
    clear hat hlen e
    go_enter Tryd.func56, Tryd.ntmps56
    go_wp2
    go_ret
    exact ⟨rfl, rfl⟩

set_option maxHeartbeats 2000000 in
set_option maxRecDepth 100000 in
theorem small_any (x : Nat) (w : World) (hx : x < 18446744073709551616) :
    Calls Tryd.prog 25 #[.int .u64 x] w fun e w' => IsRef x w w' e := by
  obtain ⟨i0, hi0, hz0, hz1, hz2⟩ := info_parts info_u8
  have hdl : (digs 10 x).length ≤ 20 := (digs_len 10 (by omega) x 20).1 (by omega)
  have HX := Lib.hid hx
  clear hx
  go_enter Tryd.func25, Tryd.ntmps25
  go_wp2
  go_loopw [0, 3] (fun nv v wr => ∃ (m : Nat) (acc : List Nat), nv = .int .u64 m ∧ m ≤ x ∧ OwnN .u8 5 w.heap.size wr v acc ∧ acc.length ≤ 20 ∧ Hid (digs 10 x = acc ++ digs 10 m) ∧ Below w.heap.size w wr) (fun nv _ _ => (intOf nv).toNat)
  case atStart => exact ⟨x, [], rfl, Nat.le_refl _, OwnN.nil _ _ _ _, by simp, rfl, Below.refl _ _⟩
  case round =>
    obtain ⟨m, acc, rfl, hm, hown, hal, hv, hb⟩ := hrel
    have hz := hb.size
    by_cases h0 : m = 0
    · subst h0
      have HV := Lib.hid (show acc = digs 10 x by rw [hv.out, digs_zero, List.append_nil])
      go_wp2
      go_ret
      exact ⟨_, rfl, hown.asList HV.out, hb⟩
    · have HP := Lib.hid (digs_pos 10 m (by omega) h0)
      have hal2 : acc.length + 1 ≤ 20 := by
        have h1 := congrArg List.length hv.out
        rw [HP.out, List.length_append, List.length_cons] at h1
        omega
      have hm64 : (m : Int) ≤ 18446744073709551615 := by have := HX.out; omega
      have hlit := OwnN.lit .u8 5 wr.heap.size wr (m % 10) (Nat.le_refl _)
      rw [show ((m % 10 : Nat) : Int) = (m : Int) % 10 by omega] at hlit
      have HL := Lib.hid hlit
      clear hlit
      have hm0 : (0 : Int) < m := by omega
      go_wp2_with (at_builtin; refine wpList_append_rd _ rfl _ _ 29 rfl w.heap.size wr.heap.size .u8 5 i0 (.int .u8 0) 1 Tryd.underlying29 hi0 hz0 hz1 hz2 rfl _ _ acc [m % 10] rfl rfl (hown.below (below_alloc0 wr _)) HL.out ?c1 ?c2 ?c3 ?_)
      case c1 => show acc.length + 1 ≤ _; unfold maxLen; omega
      case c2 => show (acc.length + 1) * 1 ≤ _; omega
      case c3 => first | omega | exact Nat.le_trans hz (below_alloc0 wr _).size
      intro v' w' hown' hgrow
      go_wp2
      go_roundw
      case rel =>
        refine ⟨m / 10, acc ++ [m % 10], by go_num, by omega, hown', by simp; omega, by show _ = _; rw [hv.out, HP.out, List.append_assoc]; rfl, (hb.alloc hz _).grown hgrow (by simp; omega) (fun q hq => (hown.block_ge q hq).1)⟩
      case measure => simp [intOf]; omega

theorem same_lists (l m : List Nat) (k : Nat) (hl : l.length = m.length) (hk : k < l.length) (h : l.take k = m.take k) : (l.take (k + 1) = m.take (k + 1)) ↔ l.getD k 0 = m.getD k 0 := by
  have hk2 : k < m.length := by omega
  rw [List.take_succ_eq_append_getElem (l := l) hk, List.take_succ_eq_append_getElem (l := m) hk2, h]
  rw [List.getD, List.getElem?_eq_getElem hk, List.getD, List.getElem?_eq_getElem hk2]
  show _ ↔ l[k] = m[k]
  exact ⟨fun e => (List.cons.inj (List.append_cancel_left e)).1, fun e => by rw [e]⟩

set_option maxHeartbeats 2000000 in
set_option maxRecDepth 100000 in
theorem refSame_any (A A2 : Option Addr) (n cap n2 cap2 : Nat) (l l2 : List Nat) (w : World) (hR : RdN .u32 w A n l) (hR2 : RdN .u32 w A2 n2 l2) (hn : n ≤ 9223372036854775807) (hn2 : n2 ≤ 9223372036854775807) :
    Calls Tryd.prog 49 #[.slice A n cap, .slice A2 n2 cap2] w fun e w' => e = .returned (.bool (decide (l = l2))) ∧ Below w.heap.size w w' := by
  by_cases hnn : n = n2
  · subst hnn
    have hln : l.length = l2.length := by rw [hR.1, hR2.1]
    have HSM := Lib.hid (fun k => same_lists l l2 k hln)
    have HL1 := Lib.hid hR.1
    have HL2 := Lib.hid hR2.1
    have HR := Lib.hid hR
    have HR2 := Lib.hid hR2
    clear hR hR2 hln
    go_enter Tryd.func49, Tryd.ntmps49
    go_wp2
    go_loopw [5] (fun iv wr => ∃ k : Nat, k ≤ n ∧ iv = .int .i64 k ∧ Hid (l.take k = l2.take k) ∧ Below w.heap.size w wr) (fun iv _ => n - (intOf iv).toNat)
    case atStart => exact ⟨0, Nat.zero_le _, rfl, rfl, Below.refl _ _⟩
    case round =>
      obtain ⟨k, hk, rfl, hv, hb⟩ := hrel
      by_cases hlt : k < n
      · obtain ⟨b1, o1, rfl, hbl1, hc1⟩ := HR.out.2 (by omega)
        obtain ⟨b2, o2, rfl, hbl2, hc2⟩ := HR2.out.2 (by omega)
        have c1 := (hb.cell (p := ⟨b1, o1 + k, none⟩) hbl1).trans (hc1 k (by omega))
        have c2 := (hb.cell (p := ⟨b2, o2 + k, none⟩) hbl2).trans (hc2 k (by omega))
        have HS := Lib.hid (HSM.out k (by rw [HL1.out]; exact hlt) hv.out)
        have HNE := Lib.hid (show ¬ (l.take (k + 1) = l2.take (k + 1)) → l ≠ l2 from fun h e => h (by rw [e]))
        clear hc1 hc2
        generalize l.getD k 0 = a at c1 HS
        generalize l2.getD k 0 = b at c2 HS
        by_cases hab : a = b
        · subst hab
          have HT := Lib.hid (HS.out.2 rfl)
          go_wp2
          go_quiet (fail)
          go_wp2
          go_roundw
          case rel => exact ⟨k + 1, by omega, by go_num, HT.out, below_drewN hb _⟩
          case measure => simp [intOf]; omega
        · have hab' : ((a : Int) == b) = false := by simp; omega
          have HF := Lib.hid (HNE.out (fun h => hab (HS.out.1 h)))
          have HAB := Lib.hid hab
          clear hab
          go_wp2
          go_quiet (fail)
          go_wp2
          go_ret
          exact ⟨by rw [decide_eq_false HF.out]; rfl, below_drewN hb _⟩
      · obtain rfl : k = n := by omega
        have HE := Lib.hid (show l = l2 by
          have := hv.out
          rw [List.take_of_length_le (by rw [HL1.out]; exact Nat.le_refl _), List.take_of_length_le (by rw [HL2.out]; exact Nat.le_refl _)] at this
          exact this)
        go_wp2
        go_ret
        exact ⟨by rw [decide_eq_true HE.out]; rfl, hb⟩
  · have hne : l ≠ l2 := fun e => hnn (by rw [← hR.1, ← hR2.1, e])
    rw [decide_eq_false hne]
    have hnn' : ((n : Int) == n2) = false := by simp; omega
    clear hR hR2 hne
    go_enter Tryd.func49, Tryd.ntmps49
    go_wp2
    go_ret
    exact ⟨rfl, Below.refl _ _⟩
end Go.Proofs.YtmmlclgmehfmhaaDoor
