/-
  The walks of the document's answer for layer 1: Cut, Div.
-/
import Derived.Test.YtmmlclgmehfmhaaDoorRefE
namespace Go.Proofs.YtmmlclgmehfmhaaDoor
open Go.RowKit

/-- what the document's Cut answers: two rows that read as the parts -/
def IsRCut (x m : Nat) (w w' : World) (e : Ending) : Prop :=
  ∃ Aq nq cq Ar nr cr, e = .returned (.tuple #[.slice Aq nq cq, .slice Ar nr cr]) ∧ RdN .u8 w' Aq nq (digs 10 (x / 10 ^ m)) ∧ RdN .u8 w' Ar nr (digs 10 (x % 10 ^ m)) ∧ Below w.heap.size w w'

set_option maxHeartbeats 2000000 in
set_option maxRecDepth 100000 in
theorem rcut_any (v : Value) (base x m : Nat) (w : World) (hown : OwnN .u8 5 base w v (digs 10 x)) (_hx : (digs 10 x).length ≤ 1099511627776) (hm : m ≤ 1099511627776) :
    Calls Tryd.prog 39 #[v, .int .i64 m] w fun e w' => IsRCut x m w w' e := by
  obtain ⟨i0, hi0, hz0, hz1, hz2⟩ := info_parts info_u8
  have HLW := Lib.hid (digs_len 10 (by omega) x m)
  have HTK := Lib.hid (digs_take 10 (by omega) x m)
  have HDR := Lib.hid (digs_drop 10 (by omega) x m)
  have hown1 := hown
  obtain ⟨B1, c1, rfl, hcap1, hrd1, _⟩ := hown.rd
  by_cases hge : (digs 10 x).length ≤ m
  · have HZ := Lib.hid (show x / 10 ^ m = 0 ∧ x % 10 ^ m = x by
      have := HLW.out.2 hge
      exact ⟨Nat.div_eq_of_lt this, Nat.mod_eq_of_lt this⟩)
    have HR := Lib.hid hrd1
    clear hrd1 hown hown1
    go_enter Tryd.func39, Tryd.ntmps39
    go_wp2
    go_ret2
    exact ⟨_, _, _, _, _, _, rfl, .none0 rfl (by rw [HZ.out.1, digs_zero]), by rw [HZ.out.2]; exact HR.out, Below.refl _ _⟩
  · have hlt : m < (digs 10 x).length := by omega
    rcases hown1.rd' with ⟨e1, h0⟩ | ⟨g, c1', e1, hrg⟩
    · rw [h0] at hlt; simp at hlt
    · injection e1 with e1 e2 e3
      subst e1 e3
      have HD := Lib.hid (hrg.drop (i := m))
      rw [HDR.out] at HD
      have hcut := hown1.cut (m := m) (by omega)
      have hne : ¬ c1 = m := by omega
      have hmc : m ≤ c1 := by omega
      have hml : m ≤ (digs 10 x).length := by omega
      have htl : ((digs 10 x).take m).length = m := by rw [List.length_take]; omega
      have HCUT := Lib.hid hcut
      clear hcut hrg hrd1 hown hown1
      generalize hL : (digs 10 x).take m = L at *
      go_enter Tryd.func39, Tryd.ntmps39
      go_wp2_with (at_builtin; refine wpList_append_rd _ rfl _ _ 29 rfl w.heap.size base .u8 5 i0 (.int .u8 0) 1 Tryd.underlying29 hi0 hz0 hz1 hz2 rfl _ _ [] L rfl rfl (OwnN.lit0 .u8 5 w.heap.size w (Nat.le_refl _)) (HCUT.out.below (below_alloc0 w _)) ?c1 ?c2 ?c3 ?_)
      case c1 => unfold maxLen; omega
      case c2 => omega
      intro v' w1 hown' hgrow
      have hb1 : Below w.heap.size w w1 := (below_alloc0 w _).grown hgrow (below_alloc0 w _).size (fun q hq => by
        have : w.heap.size = q := by simpa [Value.ownBlock] using hq
        omega)
      have hown2 : OwnN .u8 5 w.heap.size w1 v' L := hown'
      have KT := Lib.hid (rtrim_any v' w.heap.size L w1.drew hown2.drew (by omega))
      have HB1 := Lib.hid hb1
      clear hown' hown2 hgrow hb1
      go_upto_region 4 with fail
      go_region_law (first | (go_simp; go_at_call 48; refine KT.out.mono ?_; rintro e w2 ⟨v2, rfl, ho, rfl⟩))
      all_goals
        obtain ⟨Ar, cr, rfl, _, hrr, _⟩ := ho.rd
        go_wp2
        go_ret2
        refine ⟨_, _, _, _, _, _, rfl, ?_, ?_, HB1.out.drew⟩
        · have := HD.out.below HB1.out
          rw [Nat.zero_add] at this
          exact this
        · rw [HTK.out] at hrr ⊢
          exact hrr
end Go.Proofs.YtmmlclgmehfmhaaDoor
