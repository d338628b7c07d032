/-
  The walks of limb's less and Sub.
-/
import Derived.Test.YtmmlclgmehfmhaaDoorLimG
namespace Go.Proofs.YtmmlclgmehfmhaaDoor
open Go.RowKit

theorem OwnN.cellAt {k : IntKind} {E : TypeId} {base g n cap i : Nat} {w : World} {l : List Nat} (h : OwnN k E base w (.slice (some ⟨g, 0, none⟩) n cap) l) (hi : i < l.length) : w.cell? ⟨g, i, none⟩ = some (.int k (l.getD i 0 : Nat)) ∧ w.frozen? ⟨g, i, none⟩ = false := by
  obtain ⟨g', cap', cur, hv, hg, hh, h1, h2, h3⟩ := h.block (by omega)
  obtain ⟨A, cap2, hv2, _, hrd, _⟩ := h.rd
  injection hv with e1 _ _
  injection hv2 with e2 _ _
  subst e2
  obtain rfl : g = g' := by simpa using e1
  obtain ⟨b, off, e3, _, hc⟩ := hrd.2 (by omega)
  have := hc i hi
  simp at e3
  obtain ⟨rfl, rfl⟩ := e3
  rw [Nat.zero_add] at this
  exact ⟨this, by simp [World.frozen?, hh]⟩

theorem set_mid (acc : List Nat) (n k x : Nat) (hk : acc.length = k) (hlt : k < n) : (acc ++ List.replicate (n - k) 0).set k x = (acc ++ [x]) ++ List.replicate (n - (k + 1)) 0 := by
  obtain ⟨j, hj⟩ : ∃ j, n - k = j + 1 := ⟨n - k - 1, by omega⟩
  rw [hj, show n - (k + 1) = j by omega, List.replicate_succ, List.set_append_right k x (by omega), hk, Nat.sub_self, List.set_cons_zero, List.append_assoc]
  rfl

set_option maxHeartbeats 1000000 in
set_option maxRecDepth 100000 in
theorem less_any (x y : Nat) (A A2 : Option Addr) (n cap n2 cap2 : Nat) (w : World) (hR : RdN .u32 w A n (digs 1000000000 x)) (hR2 : RdN .u32 w A2 n2 (digs 1000000000 y)) (hn : n ≤ 1099511627776) (hn2 : n2 ≤ 1099511627776) (hxy : y ≤ x) :
    Calls Tryd.prog 46 #[.slice A n cap, .slice A2 n2 cap2] w fun e w' => IsNum (x - y) w w' e := by
  have hl1 := hR.1
  have hl2 := hR2.1
  have hmn := digs_mono 1000000000 (by omega) y x hxy
  have hmk := make_u32 n n (Nat.le_refl _) (by omega) w
  have hbm := below_alloc0 w (.cells (madeCells #[.int .u32 0] n) 61)
  have hown0 := OwnN.made n w (by unfold maxLen; omega)
  have HLT := Lib.hid (digs_lt 1000000000 (by omega) x)
  have HLT2 := Lib.hid (digs_lt 1000000000 (by omega) y)
  have HV1 := Lib.hid (val_digs 1000000000 (by omega) x)
  have HV2 := Lib.hid (val_digs 1000000000 (by omega) y)
  have HR := Lib.hid hR
  have HR2 := Lib.hid hR2
  have HL1 := Lib.hid hl1
  have HL2 := Lib.hid hl2
  have HMN := Lib.hid hmn
  have HXY := Lib.hid hxy
  clear hR hR2 hl1 hl2 hmn hxy
  generalize digs 1000000000 x = l at *
  generalize digs 1000000000 y = m at *
  generalize hw0 : w.alloc (.cells (madeCells #[.int .u32 0] n) 61) = w0 at *
  have hsz0 : w0.heap.size = w.heap.size + 1 := by rw [← hw0]; simp
  have HW0 := Lib.hid hw0
  clear hw0
  go_enter Tryd.func46, Tryd.ntmps46
  go_wp2
  go_loopw [6, 14] (fun bv iv wr => ∃ (k b : Nat) (acc : List Nat), k ≤ n ∧ iv = .int .i64 k ∧ bv = .int .u64 b ∧ b ≤ 1 ∧ acc.length = k ∧ OwnN .u32 61 w.heap.size wr (.slice (some ⟨w.heap.size, 0, none⟩) n n) (acc ++ List.replicate (n - k) 0) ∧ Hid (Bor l m k b acc) ∧ Below w.heap.size w wr) (fun _ iv _ => n - (intOf iv).toNat)
  case atStart => exact ⟨0, 0, [], Nat.zero_le _, rfl, rfl, by omega, rfl, hown0, ⟨rfl, by simp, by simp [val]⟩, hbm⟩
  case round =>
    obtain ⟨k, b, acc, hk, rfl, rfl, hb1, hal, hown, hbor, hb⟩ := hrel
    by_cases hlt : k < n
    · obtain ⟨b1, o1, rfl, hbl1, hc1⟩ := HR.out.2 (by omega)
      have c1 := (hb.cell (p := ⟨b1, o1 + k, none⟩) hbl1).trans (hc1 k (by omega))
      have hx := getD_lt (by omega) HLT.out k
      have hy := getD_lt (by omega) HLT2.out k
      have K1 := Lib.hid (fun j : Nat => quiet_left (at_any A2 n2 cap2 m k (wr.drewN j) (((HR2.out.below hb).drewN j)) (by omega) (fun z hz => by have := HLT2.out z hz; omega)))
      have HB := Lib.hid (hbor.out.step hx hy hb1)
      clear hc1
      generalize l.getD k 0 = xx at c1 hx HB
      generalize m.getD k 0 = yy at K1 hy HB
      have cf := hown.cellAt (i := k) (by simp; omega)
      obtain ⟨cc, ff⟩ := cf
      go_wp2
      go_quiet ((go_at_call 55; with_reducible exact K1.out _))
      go_wp2
      have hy2 : ((xx : Int) + 1000000000 - yy - b) % 1000000000 = (((xx + 1000000000 - yy - b) % 1000000000 : Nat) : Int) := by omega
      rw [hy2]
      refine ⟨⟨k + 1, 1 - (xx + 1000000000 - yy - b) / 1000000000, acc ++ [(xx + 1000000000 - yy - b) % 1000000000], by omega, by go_num, by go_num, by omega, by simp [hal], ?_, HB.out, ?_⟩, by simp [intOf]; omega⟩
      · have hs := (hown.drewN nq).set (i := k) (x := (xx + 1000000000 - yy - b) % 1000000000) (by simp; omega)
        rw [set_mid acc n k _ hal hlt] at hs
        exact hs
      · exact (below_drewN hb nq).setCell (Nat.le_refl _) _
    · obtain rfl : k = n := by omega
      rw [Nat.sub_self, List.replicate_zero, List.append_nil] at hown
      have HT := Lib.hid (hbor.out.done (by rw [HL1.out]; omega) (by have := HMN.out; rw [HL1.out] at this; exact this) (by rw [HV1.out, HV2.out]; exact HXY.out))
      rw [HV1.out, HV2.out] at HT
      have hrd := hown.rd
      obtain ⟨A', cap', hv', hcap', hrd', _⟩ := hrd
      injection hv' with e1 e2 e3
      subst e1 e3
      rw [hal] at hrd'
      clear e2 hcap'
      have K1 := Lib.hid (trim_any _ k k acc wr hrd' (by omega) (by omega))
      clear hrd'
      go_wp2_with (go_at_call 41; refine K1.out.mono ?_; rintro e w1 ⟨rfl, rfl⟩)
      go_ret
      refine ⟨_, rfl, ?_, hb⟩
      have := hown.trim
      rw [HT.out] at this
      rw [HT.out]
      exact this
end Go.Proofs.YtmmlclgmehfmhaaDoor
