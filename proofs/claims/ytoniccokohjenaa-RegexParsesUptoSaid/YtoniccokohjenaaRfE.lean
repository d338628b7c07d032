/-
  The walks of the reference's number, times (chapter 18).
-/
import Derived.Test.YtoniccokohjenaaRfD
namespace Go.Proofs.Ytoniccokohjenaa
open Go.RowKit

/-- what number answers -/
def NumP (L : LX) (l : List Int) (w : World) : PR Nat → Ending → World → Prop
  | .ok n s, e, w' => ∃ p, e = .returned (.tuple #[pAgg L p, .int .i64 (n : Int)]) ∧ Lv w' L l s p ∧ Below w.heap.size w w'
  | .bad a m, e, w' => ∃ p n, e = .returned (.tuple #[pAgg L p, .int .i64 n]) ∧ BadX p a m ∧ Below w.heap.size w w'

set_option maxHeartbeats 4000000 in
set_option maxRecDepth 100000 in
theorem rfNumber_any (L : LX) (l : List Int) (s : PS) (p : PX) (least : Nat) (w : World) (h : Lv w L l s p) (_ : least ≤ 255) :
    Calls Try.prog 100 #[pAgg L p, .int .i64 (least : Int)] w (NumP L l w (numberR l least s)) := by
  have HLv := Lib.hid h
  have HI := Lib.hid h.i
  have hp := h.fin.pos
  have hl := h.fin.len
  generalize hq : digL 3 (l.drop s.pos) 0 = q
  have HQ := Lib.hid hq
  have hn : numberR l least s = if q.2 = 0 then failR l s.pos else if 255 < q.1 ∨ q.1 < least then failR l (s.pos + q.2 - 1) else .ok q.1 { s with pos := s.pos + q.2 } := by unfold numberR; rw [hq]
  have HN := Lib.hid hn
  have hql := digL_le 3 (l.drop s.pos) 0
  rw [hq, List.length_drop] at hql
  have KS := Lib.hid (fun (k : Nat) (W : World) (h : Lv W L l s p) (hk : k ≤ 4000) => rfSignL L l s p k W h hk)
  clear hn hq h
  go_enter Try.func100, Try.ntmps100
  go_wp2_with (with_reducible refine box_p (by with_reducible rfl) _ (by with_reducible rfl) (L := L) (p := p) (by simp [Act.eval]) ?_)
  intro V hV bV sV
  go_wp2_with (with_reducible refine room_p (by with_reducible rfl) (by with_reducible rfl) hV ?_)
  intro W hW bW sW
  clear hV bV sV bW sW
  have H := Lib.hid hW
  clear hW
  go_wp2
  go_loopw [6, 7] (fun nv mv wr => ∃ n k : Nat, nv = .int .i64 (n : Int) ∧ mv = .int .i64 (k : Int) ∧ k ≤ 3 ∧ n + 1 ≤ 10 ^ k ∧ s.pos + k ≤ l.length ∧ PF w wr w.heap.size (w.heap.size + 1) L p ∧ Hid (q = ((digL (3 - k) (l.drop (s.pos + k)) n).1, k + (digL (3 - k) (l.drop (s.pos + k)) n).2))) (fun _ mv _ => 3 - (intOf mv).toNat)
  case atStart => exact ⟨0, 0, rfl, rfl, by omega, by omega, hp, H.out, Lib.hid (by rw [← HQ.out]; exact Prod.ext rfl (Nat.zero_add _).symm)⟩
  case round =>
    obtain ⟨n, k, rfl, rfl, hk3, hnk, hpk, hv, he⟩ := hrel
    have H1 := Lib.hid hv
    have KD := KS.out k
    have KI := fun W => RetE.of (rfDigit_any (due l (s.pos + k)) W)
    have hnk2 : n + 1 ≤ 1000 := Nat.le_trans hnk (by have := Nat.pow_le_pow_right (show 0 < 10 by omega) hk3; omega)
    clear hv
    by_cases hgo : k < 3 ∧ digI (due l (s.pos + k)) = true
    · obtain ⟨k3, hd⟩ := hgo
      have z1 : decide ((k : Int) < 3) = true := decide_eq_true (by omega)
      have hlt : s.pos + k < l.length := due_lt rfl (fun e => by rw [e] at hd; exact absurd hd (by decide))
      have hr := digI_range hd
      have e3 : 3 - k = (3 - (k + 1)) + 1 := by omega
      have he2 := Lib.hid (by rw [he.out, e3, digL_step hd, Nat.add_assoc]; exact Prod.ext rfl (by simp only; omega) : q = ((digL (3 - (k + 1)) (l.drop (s.pos + (k + 1))) (10 * n + (due l (s.pos + k) - 48).toNat)).1, (k + 1) + (digL (3 - (k + 1)) (l.drop (s.pos + (k + 1))) (10 * n + (due l (s.pos + k) - 48).toNat)).2))
      rw [hd] at KI
      have hpow : 10 ^ (k + 1) = 10 * 10 ^ k := by rw [Nat.pow_succ, Nat.mul_comm]
      clear hd
      generalize due l (s.pos + k) = d at *
      obtain ⟨c, hcd⟩ : ∃ c : Nat, (d - 48).toNat = c := ⟨_, rfl⟩
      rw [hcd] at he2
      have K1 := Lib.hid KD
      have K2 := Lib.hid KI
      have hc9 : c ≤ 9 := by omega
      have hnew := Lib.hid (by rw [hpow]; omega : 10 * n + c + 1 ≤ 10 ^ (k + 1))
      clear KD KI hnk hpow e3 hql
      have a1 : wrap64 (10 * (n : Int)) = 10 * (n : Int) := by unfold wrap64; omega
      have a2 : wrap64 (10 * (n : Int) + d) = 10 * (n : Int) + d := by unfold wrap64; omega
      have a3 : wrap64 (10 * (n : Int) + d - 48) = 10 * (n : Int) + d - 48 := by unfold wrap64; omega
      go_wp2_with (first
        | (with_reducible refine load_pG (by with_unfolding_all rfl) _ (by with_reducible rfl) w.heap.size (by first | (simp [Act.eval]; done) | simp [Act.eval, Act.put]) H1.out ?_)
        | (go_at_call 55; (with_reducible refine (K1.out _ (HLv.out.below H1.out.below) (by omega)).mono ?_)))
      rintro e w1 ⟨rfl, hb1⟩
      have H2 := Lib.hid (H1.out.call hb1)
      clear hb1
      go_wp2_with (first
        | (go_at_call 112; (with_reducible refine (K2.out _).mono ?_)))
      rintro e w2 ⟨rfl, rfl⟩
      go_wp2_with (first
        | (with_reducible refine load_p (by with_reducible rfl) _ (by with_reducible rfl) w.heap.size (by first | (simp [Act.eval]; done) | simp [Act.eval, Act.put]) H2.out ?_)
        | (go_at_call 55; (with_reducible refine (K1.out _ (HLv.out.below H2.out.below) (by omega)).mono ?_)))
      rintro e w3 ⟨rfl, hb3⟩
      have H3 := Lib.hid (H2.out.call hb3)
      clear hb3
      go_wp2
      go_roundw
      case rel => exact ⟨10 * n + c, k + 1, congrArg (Value.int IntKind.i64) (by omega), rfl, by omega, hnew.out, by omega, H3.out, he2⟩
      case measure => simp [intOf]; omega
    · have hz : digL (3 - k) (l.drop (s.pos + k)) n = (n, 0) := by
        by_cases k3 : k < 3
        · exact digL_stop (by simpa using fun e => hgo ⟨k3, e⟩)
        · have : 3 - k = 0 := by omega
          rw [this]; rfl
      have hqe : q = (n, k) := by rw [he.out, hz]; exact Prod.ext rfl (Nat.add_zero k)
      subst hqe
      have HHK := Lib.hid hk3
      by_cases k3 : k < 3
      · have hd : digI (due l (s.pos + k)) = false := by simpa using fun e => hgo ⟨k3, e⟩
        have z1 : decide ((k : Int) < 3) = true := decide_eq_true (by omega)
        rw [hd] at KI
        have K2 := Lib.hid KI
        clear KI hd hz hgo hnk hql he
        generalize due l (s.pos + k) = d at *
        have K1 := Lib.hid KD
        clear KD
        go_wp2_with (first
          | (with_reducible refine load_pG (by with_unfolding_all rfl) _ (by with_reducible rfl) w.heap.size (by first | (simp [Act.eval]; done) | simp [Act.eval, Act.put]) H1.out ?_)
          | (go_at_call 55; (with_reducible refine (K1.out _ (HLv.out.below H1.out.below) (by omega)).mono ?_)))
        rintro e w1 ⟨rfl, hb1⟩
        have H4 := Lib.hid (H1.out.call hb1)
        clear hb1
        go_wp2_with (first
          | (go_at_call 112; (with_reducible refine (K2.out _).mono ?_)))
        rintro e w2 ⟨rfl, rfl⟩
        by_cases hk0 : k = 0
        · obtain ⟨a', m', hf, hbx⟩ := stopX_fail (α := Nat) (L := L) (l := l) (p := p) (i := s.pos) (HLv.out.pat.1).symm
          have HR := Lib.hid (show numberR l least s = .bad a' m' by rw [HN.out, if_pos hk0, hf])
          have HBX := Lib.hid hbx
          have z2 : ((k : Int) == 0) = true := by rw [hk0]; rfl
          have c1 := H4.out.i
          rw [HI.out] at c1
          have KST := Lib.hid (fun W => rfStop L p (s.pos : Int) W)
          clear hf hbx hk0
          go_wp2_with (first
            | (with_reducible refine load_p (by with_reducible rfl) _ (by with_reducible rfl) w.heap.size (by first | (simp [Act.eval]; done) | simp [Act.eval, Act.put]) H4.out ?_)
            | (go_at_call 32; (with_reducible refine (KST.out _).mono ?_)))
          rintro e w5 ⟨rfl, hb5⟩
          have H5 := Lib.hid (H4.out.call hb5)
          clear hb5
          go_wp2_with (first
            | (with_reducible refine store_r (by with_reducible rfl) _ _ (by with_reducible rfl) (w.heap.size + 1) (p' := (stopX L p (s.pos : Int))) (by first | (simp [Act.eval]; done) | simp [Act.eval, Act.put]) (by first | (simp [Act.eval]; done) | simp [Act.eval, Act.put]) H5.out ?_))
          intro W2 h2 b2 _
          go_wp2
          refine ret_p2 (k := 4) (j := 5) Try.results100 h2 (by simp) (by simp; rfl) rfl ?_
          rw [HR.out]
          exact ⟨_, _, rfl, HBX.out, b2⟩
        by_cases hbig : 255 < n ∨ n < least
        · obtain ⟨a', m', hf, hbx⟩ := stopX_fail (α := Nat) (L := L) (l := l) (p := p) (i := s.pos + k - 1) (HLv.out.pat.1).symm
          have HR := Lib.hid (show numberR l least s = .bad a' m' by rw [HN.out, if_neg hk0, if_pos hbig, hf])
          have HBX := Lib.hid hbx
          have z2 : ((k : Int) == 0) = false := beq_false_of_ne (by omega)
          have c1 := H4.out.i
          rw [HI.out] at c1
          have ek : ((s.pos + k - 1 : Nat) : Int) = (s.pos : Int) + (k : Int) - 1 := by omega
          rw [ek] at HBX
          have KST := Lib.hid (fun W => rfStop L p ((s.pos : Int) + (k : Int) - 1) W)
          have hkl : k ≤ 3 ∧ s.pos + k ≤ 1000 := ⟨hk3, by omega⟩
          by_cases hb1 : 255 < n
          · have z3 : decide ((255 : Int) < (n : Int)) = true := decide_eq_true (by omega)
            clear hf hbx hk0 hbig hb1 ek
            go_wp2_with (first
              | (with_reducible refine load_p (by with_reducible rfl) _ (by with_reducible rfl) w.heap.size (by first | (simp [Act.eval]; done) | simp [Act.eval, Act.put]) H4.out ?_)
              | (go_at_call 32; (with_reducible refine (KST.out _).mono ?_)))
            rintro e w5 ⟨rfl, hb5⟩
            have H5 := Lib.hid (H4.out.call hb5)
            clear hb5
            go_wp2_with (first
              | (with_reducible refine store_r (by with_reducible rfl) _ _ (by with_reducible rfl) (w.heap.size + 1) (p' := (stopX L p ((s.pos : Int) + (k : Int) - 1))) (by first | (simp [Act.eval]; done) | simp [Act.eval, Act.put]) (by first | (simp [Act.eval]; done) | simp [Act.eval, Act.put]) H5.out ?_))
            intro W2 h2 b2 _
            go_wp2
            refine ret_p2 (k := 4) (j := 5) Try.results100 h2 (by simp) (by simp; rfl) rfl ?_
            rw [HR.out]
            exact ⟨_, _, rfl, HBX.out, b2⟩
          · have z3 : decide ((255 : Int) < (n : Int)) = false := decide_eq_false (by omega)
            have z4 : n < least := by omega
            clear hf hbx hk0 hbig hb1 ek
            go_wp2_with (first
              | (with_reducible refine load_p (by with_reducible rfl) _ (by with_reducible rfl) w.heap.size (by first | (simp [Act.eval]; done) | simp [Act.eval, Act.put]) H4.out ?_)
              | (go_at_call 32; (with_reducible refine (KST.out _).mono ?_)))
            rintro e w5 ⟨rfl, hb5⟩
            have H5 := Lib.hid (H4.out.call hb5)
            clear hb5
            go_wp2_with (first
              | (with_reducible refine store_r (by with_reducible rfl) _ _ (by with_reducible rfl) (w.heap.size + 1) (p' := (stopX L p ((s.pos : Int) + (k : Int) - 1))) (by first | (simp [Act.eval]; done) | simp [Act.eval, Act.put]) (by first | (simp [Act.eval]; done) | simp [Act.eval, Act.put]) H5.out ?_))
            intro W2 h2 b2 _
            go_wp2
            refine ret_p2 (k := 4) (j := 5) Try.results100 h2 (by simp) (by simp; rfl) rfl ?_
            rw [HR.out]
            exact ⟨_, _, rfl, HBX.out, b2⟩
        · have HR := Lib.hid (show numberR l least s = .ok n { s with pos := s.pos + k } by rw [HN.out, if_neg hk0, if_neg hbig])
          have z2 : ((k : Int) == 0) = false := beq_false_of_ne (by omega)
          have z3 : decide ((255 : Int) < (n : Int)) = false := decide_eq_false (by omega)
          have z4 : least ≤ n := by omega
          have HV5 := Lib.hid (HLv.out.on k hpk)
          have KON := Lib.hid (fun W => rfOn L p (k : Int) W)
          clear hk0 hbig
          go_wp2_with (first
            | (with_reducible refine load_p (by with_reducible rfl) _ (by with_reducible rfl) w.heap.size (by first | (simp [Act.eval]; done) | simp [Act.eval, Act.put]) H4.out ?_)
            | (go_at_call 56; (with_reducible refine (KON.out _).mono ?_)))
          rintro e w5 ⟨rfl, hb5⟩
          have H5 := Lib.hid (H4.out.call hb5)
          clear hb5
          go_wp2_with (first
            | (with_reducible refine store_r (by with_reducible rfl) _ _ (by with_reducible rfl) (w.heap.size + 1) (p' := { p with i := wrap64 (p.i + (k : Int)) }) (by first | (simp [Act.eval]; done) | simp [Act.eval, Act.put]) (by first | (simp [Act.eval]; done) | simp [Act.eval, Act.put]) H5.out ?_))
          intro W2 h2 b2 _
          go_wp2
          refine ret_p2 (k := 4) (j := 5) Try.results100 h2 (by simp) (by simp; rfl) rfl ?_
          rw [HR.out]
          exact ⟨_, rfl, HV5.out.below b2, b2⟩
      · have z1 : decide ((k : Int) < 3) = false := decide_eq_false (by omega)
        have H4 := H1
        clear KI hz hgo hnk hql he KD H1
        by_cases hk0 : k = 0
        · obtain ⟨a', m', hf, hbx⟩ := stopX_fail (α := Nat) (L := L) (l := l) (p := p) (i := s.pos) (HLv.out.pat.1).symm
          have HR := Lib.hid (show numberR l least s = .bad a' m' by rw [HN.out, if_pos hk0, hf])
          have HBX := Lib.hid hbx
          have z2 : ((k : Int) == 0) = true := by rw [hk0]; rfl
          have c1 := H4.out.i
          rw [HI.out] at c1
          have KST := Lib.hid (fun W => rfStop L p (s.pos : Int) W)
          clear hf hbx hk0
          go_wp2_with (first
            | (with_reducible refine load_p (by with_reducible rfl) _ (by with_reducible rfl) w.heap.size (by first | (simp [Act.eval]; done) | simp [Act.eval, Act.put]) H4.out ?_)
            | (go_at_call 32; (with_reducible refine (KST.out _).mono ?_)))
          rintro e w5 ⟨rfl, hb5⟩
          have H5 := Lib.hid (H4.out.call hb5)
          clear hb5
          go_wp2_with (first
            | (with_reducible refine store_r (by with_reducible rfl) _ _ (by with_reducible rfl) (w.heap.size + 1) (p' := (stopX L p (s.pos : Int))) (by first | (simp [Act.eval]; done) | simp [Act.eval, Act.put]) (by first | (simp [Act.eval]; done) | simp [Act.eval, Act.put]) H5.out ?_))
          intro W2 h2 b2 _
          go_wp2
          refine ret_p2 (k := 4) (j := 5) Try.results100 h2 (by simp) (by simp; rfl) rfl ?_
          rw [HR.out]
          exact ⟨_, _, rfl, HBX.out, b2⟩
        by_cases hbig : 255 < n ∨ n < least
        · obtain ⟨a', m', hf, hbx⟩ := stopX_fail (α := Nat) (L := L) (l := l) (p := p) (i := s.pos + k - 1) (HLv.out.pat.1).symm
          have HR := Lib.hid (show numberR l least s = .bad a' m' by rw [HN.out, if_neg hk0, if_pos hbig, hf])
          have HBX := Lib.hid hbx
          have z2 : ((k : Int) == 0) = false := beq_false_of_ne (by omega)
          have c1 := H4.out.i
          rw [HI.out] at c1
          have ek : ((s.pos + k - 1 : Nat) : Int) = (s.pos : Int) + (k : Int) - 1 := by omega
          rw [ek] at HBX
          have KST := Lib.hid (fun W => rfStop L p ((s.pos : Int) + (k : Int) - 1) W)
          have hkl : k ≤ 3 ∧ s.pos + k ≤ 1000 := ⟨hk3, by omega⟩
          by_cases hb1 : 255 < n
          · have z3 : decide ((255 : Int) < (n : Int)) = true := decide_eq_true (by omega)
            clear hf hbx hk0 hbig hb1 ek
            go_wp2_with (first
              | (with_reducible refine load_p (by with_reducible rfl) _ (by with_reducible rfl) w.heap.size (by first | (simp [Act.eval]; done) | simp [Act.eval, Act.put]) H4.out ?_)
              | (go_at_call 32; (with_reducible refine (KST.out _).mono ?_)))
            rintro e w5 ⟨rfl, hb5⟩
            have H5 := Lib.hid (H4.out.call hb5)
            clear hb5
            go_wp2_with (first
              | (with_reducible refine store_r (by with_reducible rfl) _ _ (by with_reducible rfl) (w.heap.size + 1) (p' := (stopX L p ((s.pos : Int) + (k : Int) - 1))) (by first | (simp [Act.eval]; done) | simp [Act.eval, Act.put]) (by first | (simp [Act.eval]; done) | simp [Act.eval, Act.put]) H5.out ?_))
            intro W2 h2 b2 _
            go_wp2
            refine ret_p2 (k := 4) (j := 5) Try.results100 h2 (by simp) (by simp; rfl) rfl ?_
            rw [HR.out]
            exact ⟨_, _, rfl, HBX.out, b2⟩
          · have z3 : decide ((255 : Int) < (n : Int)) = false := decide_eq_false (by omega)
            have z4 : n < least := by omega
            clear hf hbx hk0 hbig hb1 ek
            go_wp2_with (first
              | (with_reducible refine load_p (by with_reducible rfl) _ (by with_reducible rfl) w.heap.size (by first | (simp [Act.eval]; done) | simp [Act.eval, Act.put]) H4.out ?_)
              | (go_at_call 32; (with_reducible refine (KST.out _).mono ?_)))
            rintro e w5 ⟨rfl, hb5⟩
            have H5 := Lib.hid (H4.out.call hb5)
            clear hb5
            go_wp2_with (first
              | (with_reducible refine store_r (by with_reducible rfl) _ _ (by with_reducible rfl) (w.heap.size + 1) (p' := (stopX L p ((s.pos : Int) + (k : Int) - 1))) (by first | (simp [Act.eval]; done) | simp [Act.eval, Act.put]) (by first | (simp [Act.eval]; done) | simp [Act.eval, Act.put]) H5.out ?_))
            intro W2 h2 b2 _
            go_wp2
            refine ret_p2 (k := 4) (j := 5) Try.results100 h2 (by simp) (by simp; rfl) rfl ?_
            rw [HR.out]
            exact ⟨_, _, rfl, HBX.out, b2⟩
        · have HR := Lib.hid (show numberR l least s = .ok n { s with pos := s.pos + k } by rw [HN.out, if_neg hk0, if_neg hbig])
          have z2 : ((k : Int) == 0) = false := beq_false_of_ne (by omega)
          have z3 : decide ((255 : Int) < (n : Int)) = false := decide_eq_false (by omega)
          have z4 : least ≤ n := by omega
          have HV5 := Lib.hid (HLv.out.on k hpk)
          have KON := Lib.hid (fun W => rfOn L p (k : Int) W)
          clear hk0 hbig
          go_wp2_with (first
            | (with_reducible refine load_p (by with_reducible rfl) _ (by with_reducible rfl) w.heap.size (by first | (simp [Act.eval]; done) | simp [Act.eval, Act.put]) H4.out ?_)
            | (go_at_call 56; (with_reducible refine (KON.out _).mono ?_)))
          rintro e w5 ⟨rfl, hb5⟩
          have H5 := Lib.hid (H4.out.call hb5)
          clear hb5
          go_wp2_with (first
            | (with_reducible refine store_r (by with_reducible rfl) _ _ (by with_reducible rfl) (w.heap.size + 1) (p' := { p with i := wrap64 (p.i + (k : Int)) }) (by first | (simp [Act.eval]; done) | simp [Act.eval, Act.put]) (by first | (simp [Act.eval]; done) | simp [Act.eval, Act.put]) H5.out ?_))
          intro W2 h2 b2 _
          go_wp2
          refine ret_p2 (k := 4) (j := 5) Try.results100 h2 (by simp) (by simp; rfl) rfl ?_
          rw [HR.out]
          exact ⟨_, rfl, HV5.out.below b2, b2⟩

/-- the state and two numbers are handed back -/
theorem ret_p3 {fn : Func} {k j i : Nat} (hr : fn.results = #[.cell k TP, .tmp j, .tmp i]) {a : Act} {W : World} {r : Nat} {L : LX} {p : PX} {z : Nat × Nat} {v u : Value} (hh : W.heap[r]? = some (.cells (pCells L p).toArray TP z))
    (ht : a.tmps.getD k undef = .pointer (some ⟨r, 0, none⟩)) (hv : a.tmps.getD j undef = v) (hu : a.tmps.getD i undef = u) (hd : a.defers = []) {R : Ending → World → Prop} (hR : R (.returned (.tuple #[pAgg L p, v, u])) W) : bodyPost Try.prog fn R .ret a W := by
  have ht' : a.tmps[k]?.getD undef = .pointer (some ⟨r, 0, none⟩) := by simpa using ht
  have hv' : a.tmps[j]?.getD undef = v := by simpa using hv
  have hu' : a.tmps[i]?.getD undef = u := by simpa using hu
  refine bodyPost_ret (v := .tuple #[pAgg L p, v, u]) ?_ hd hR
  obtain ⟨d, hd, hrow⟩ := underP
  have := run_loadVar_mid W r 0 TP (pCells L p) d (range_of hh) hd hrow (by rw [sizeP, p_len])
  simp [results, hr, ht', hv', hu', asAddr, this, p_agg, Result.andThen]
theorem BadX.on {p : PX} {a n : Nat} (h : BadX p a n) (i : Int) : BadX { p with i := i } a n := ⟨h.at', h.bad, h.ne⟩

/-- what times answers -/
def TimP (L : LX) (l : List Int) (w : World) : PR (Nat × Int) → Ending → World → Prop
  | .ok q s, e, w' => ∃ p, e = .returned (.tuple #[pAgg L p, .int .i64 (q.1 : Int), .int .i64 q.2]) ∧ Lv w' L l s p ∧ Below w.heap.size w w'
  | .bad a m, e, w' => ∃ p n k, e = .returned (.tuple #[pAgg L p, .int .i64 n, .int .i64 k]) ∧ BadX p a m ∧ Below w.heap.size w w'

set_option maxHeartbeats 4000000 in
set_option maxRecDepth 100000 in
theorem rfTimes_any (L : LX) (l : List Int) (s : PS) (p : PX) (w : World) (h : Lv w L l s p) :
    Calls Try.prog 84 #[pAgg L p] w (TimP L l w (timesR l s)) := by
  have HLv := Lib.hid h
  have KN := Lib.hid (fun (W : World) (h : Lv W L l s p) => show Calls Try.prog 100 #[pAgg L p, .int .i64 0] W (NumP L l W (numberR l 0 s)) from rfNumber_any L l s p 0 W h (by omega))
  have ht : timesR l s = (numberR l 0 s).bind fun a s => (mostR l a s).bind fun b s => if due l s.pos = 125 then .ok (a, b) { s with pos := s.pos + 1 } else failR l s.pos := rfl
  clear h
  cases hn : numberR l 0 s with
  | bad a m =>
    rw [hn] at ht KN
    have HM := Lib.hid (show timesR l s = .bad a m from ht)
    clear ht hn
    go_enter Try.func84, Try.ntmps84
    go_wp2_with (with_reducible refine box_p (by with_reducible rfl) _ (by with_reducible rfl) (L := L) (p := p) (by simp [Act.eval]) ?_)
    intro V hV bV sV
    go_wp2_with (with_reducible refine room_p (by with_reducible rfl) (by with_reducible rfl) hV ?_)
    intro W hW bW sW
    clear hV bV sV bW sW
    have H := Lib.hid hW
    clear hW
    go_wp2_with (first
      | (with_reducible refine load_p (by with_reducible rfl) _ (by with_reducible rfl) w.heap.size (by first | (simp [Act.eval]; done) | simp [Act.eval, Act.put]) H.out ?_)
      | (go_at_call 100; (with_reducible refine (KN.out _ (HLv.out.below H.out.below)).mono ?_)))
    rintro e w1 ⟨pK, n1, rfl, hbk, hb1⟩
    have H1 := Lib.hid (H.out.call hb1)
    have HBK := Lib.hid hbk
    clear hb1 hbk
    go_wp2_with (first
      | (with_reducible refine store_p (by with_reducible rfl) _ _ (by with_reducible rfl) w.heap.size (p' := pK) (by first | (simp [Act.eval]; done) | simp [Act.eval, Act.put]) (by first | (simp [Act.eval]; done) | simp [Act.eval, Act.put]) H1.out ?_))
    intro V1 hV1 o1
    have HPK := Lib.hid hV1
    clear hV1
    have c16 := HPK.out.bad
    have z16 : (pK.bad == 0) = false := by simp [HBK.out.ne0]
    have KON := Lib.hid (fun W => rfOn L pK 1 W)
    go_wp2_with (first
      | (with_reducible refine load_p (by with_reducible rfl) _ (by with_reducible rfl) w.heap.size (by first | (simp [Act.eval]; done) | simp [Act.eval, Act.put]) HPK.out ?_)
      | (go_at_call 56; (with_reducible refine (KON.out _).mono ?_)))
    rintro e w8 ⟨rfl, hb8⟩
    have H8 := Lib.hid (HPK.out.call hb8)
    clear hb8 c16
    go_wp2_with (first
      | (with_reducible refine store_r (by with_reducible rfl) _ _ (by with_reducible rfl) (w.heap.size + 1) (p' := { pK with i := wrap64 (pK.i + 1) }) (by first | (simp [Act.eval]; done) | simp [Act.eval, Act.put]) (by first | (simp [Act.eval]; done) | simp [Act.eval, Act.put]) H8.out ?_))
    intro W2 h2 b2 _
    go_wp2
    refine ret_p3 (k := 2) (j := 3) (i := 4) Try.results84 h2 (by simp) (by simp; rfl) (by simp; rfl) rfl ?_
    rw [HM.out]
    exact ⟨_, _, _, rfl, HBK.out.on _, b2⟩
  | ok a s1 =>
    have hs1 := Lib.hid hn
    rw [hn] at ht KN
    have ht : timesR l s = (mostR l a s1).bind fun b s => if due l s.pos = 125 then .ok (a, b) { s with pos := s.pos + 1 } else failR l s.pos := ht
    have ha := (number_adv hn).2.1
    clear hn
    by_cases h44 : due l s1.pos = 44
    · have hlt44 := due_lt h44 (by decide)
      have hm : mostR l a s1 = if due l (s1.pos + 1) = 125 then .ok (-1 : Int) { s1 with pos := s1.pos + 1 } else (numberR l a { s1 with pos := s1.pos + 1 }).bind fun n s => .ok (n : Int) s := by unfold mostR; rw [if_pos h44]
      rw [hm] at ht
      have HT := Lib.hid ht
      clear ht hm
      go_enter Try.func84, Try.ntmps84
      go_wp2_with (with_reducible refine box_p (by with_reducible rfl) _ (by with_reducible rfl) (L := L) (p := p) (by simp [Act.eval]) ?_)
      intro V hV bV sV
      go_wp2_with (with_reducible refine room_p (by with_reducible rfl) (by with_reducible rfl) hV ?_)
      intro W hW bW sW
      clear hV bV sV bW sW
      have H := Lib.hid hW
      have HPT := Lib.hid (HLv.out.pat)
      clear hW
      go_wp2_with (first
        | (with_reducible refine load_p (by with_reducible rfl) _ (by with_reducible rfl) w.heap.size (by first | (simp [Act.eval]; done) | simp [Act.eval, Act.put]) H.out ?_)
        | (go_at_call 100; (with_reducible refine (KN.out _ (HLv.out.below H.out.below)).mono ?_)))
      rintro e w1 ⟨pA, rfl, hlk, hb1⟩
      have H1 := Lib.hid (H.out.call hb1)
      have HLK1 := Lib.hid hlk
      clear hb1 hlk
      go_wp2_with (first
        | (with_reducible refine store_p (by with_reducible rfl) _ _ (by with_reducible rfl) w.heap.size (p' := pA) (by first | (simp [Act.eval]; done) | simp [Act.eval, Act.put]) (by first | (simp [Act.eval]; done) | simp [Act.eval, Act.put]) H1.out ?_))
      intro V0 hV0 o0
      have H2 := Lib.hid hV0
      have hlk2 := HLK1.out.off o0 (HPT.out.below hV0.below)
      have c16 := hV0.bad
      rw [hlk2.bad] at c16
      have kd := show Calls Try.prog 55 #[pAgg L pA, .int .i64 0] V0 (RetE (.int .i64 (due l s1.pos)) fun w' => Below V0.heap.size V0 w') from rfSignL L l s1 pA 0 V0 hlk2 (by omega)
      rw [h44] at kd
      have HLK2 := Lib.hid hlk2
      have KD4 := Lib.hid kd
      have KON := Lib.hid (fun W => rfOn L pA 1 W)
      clear hV0 hlk2 o0 kd h44
      go_wp2_with (first
        | (with_reducible refine load_pG (by with_unfolding_all rfl) _ (by with_reducible rfl) w.heap.size (by first | (simp [Act.eval]; done) | simp [Act.eval, Act.put]) H2.out ?_)
        | (go_at_call 55; (with_reducible refine (KD4.out).mono ?_)))
      rintro e w3 ⟨rfl, hb3⟩
      have H3 := Lib.hid (H2.out.call hb3)
      have HLK3 := Lib.hid (HLK2.out.below hb3)
      clear hb3 c16
      go_wp2_with (first
        | (with_reducible refine load_p (by with_reducible rfl) _ (by with_reducible rfl) w.heap.size (by first | (simp [Act.eval]; done) | simp [Act.eval, Act.put]) H3.out ?_)
        | (go_at_call 56; (with_reducible refine (KON.out _).mono ?_)))
      rintro e w4 ⟨rfl, hb4⟩
      have H4 := Lib.hid (H3.out.call hb4)
      have HLK4 := Lib.hid ((HLK3.out.below hb4).on 1 hlt44)
      clear hb4
      go_wp2_with (first
        | (with_reducible refine store_p (by with_reducible rfl) _ _ (by with_reducible rfl) w.heap.size (p' := { pA with i := wrap64 (pA.i + 1) }) (by first | (simp [Act.eval]; done) | simp [Act.eval, Act.put]) (by first | (simp [Act.eval]; done) | simp [Act.eval, Act.put]) H4.out ?_))
      intro V5 hV5 o5
      have H5 := Lib.hid hV5
      have HLK5 := Lib.hid (HLK4.out.off o5 (HPT.out.below hV5.below))
      clear hV5 o5
      generalize hpB : ({ pA with i := wrap64 (pA.i + 1) } : PX) = pB at *
      clear hpB
      have kd5 := show Calls Try.prog 55 #[pAgg L pB, .int .i64 0] V5 (RetE (.int .i64 (due l (s1.pos + 1))) fun w' => Below V5.heap.size V5 w') from rfSignL L l { s1 with pos := s1.pos + 1 } pB 0 V5 HLK5.out (by omega)
      by_cases h125 : due l (s1.pos + 1) = 125
      · have HM := Lib.hid (show timesR l s = if due l (s1.pos + 1) = 125 then .ok (a, -1) { s1 with pos := s1.pos + 1 + 1 } else failR l (s1.pos + 1) by rw [HT.out, if_pos h125]; rfl)
        rw [h125] at kd5
        have KD5 := Lib.hid kd5
        clear kd5 h125
        go_wp2_with (first
          | (with_reducible refine load_p (by with_reducible rfl) _ (by with_reducible rfl) w.heap.size (by first | (simp [Act.eval]; done) | simp [Act.eval, Act.put]) H5.out ?_)
          | (go_at_call 55; (with_reducible refine (KD5.out).mono ?_)))
        rintro e V1 ⟨rfl, hb6⟩
        have HPK := Lib.hid (H5.out.call hb6)
        have HLK := Lib.hid (HLK5.out.below hb6)
        clear hb6
        generalize hpK : pB = pK at *
        generalize hsk : ({ s1 with pos := s1.pos + 1 } : PS) = sK at *
        have HM := Lib.hid (show timesR l s = if due l sK.pos = 125 then .ok (a, -1) { sK with pos := sK.pos + 1 } else failR l sK.pos by rw [← hsk]; exact HM.out)
        clear hsk hpK
        have c16 := HPK.out.bad
        rw [HLK.out.bad] at c16
        have k0 := show Calls Try.prog 55 #[pAgg L pK, .int .i64 0] V1 (RetE (.int .i64 (due l sK.pos)) fun w' => Below V1.heap.size V1 w') from rfSignL L l sK pK 0 V1 HLK.out (by omega)
        have hm := HM.out
        by_cases hd : due l sK.pos = 125
        · rw [hd] at k0
          rw [if_pos hd] at hm
          have HM2 := Lib.hid hm
          have KD := Lib.hid k0
          have hlt := due_lt hd (by decide)
          have HV5 := Lib.hid (HLK.out.on 1 hlt)
          have KON := Lib.hid (fun W => rfOn L pK 1 W)
          clear hm k0 hd
          go_wp2_with (first
            | (with_reducible refine load_pG (by with_unfolding_all rfl) _ (by with_reducible rfl) w.heap.size (by first | (simp [Act.eval]; done) | simp [Act.eval, Act.put]) HPK.out ?_)
            | (go_at_call 55; (with_reducible refine (KD.out).mono ?_)))
          rintro e w7 ⟨rfl, hb7⟩
          have H7 := Lib.hid (HPK.out.call hb7)
          have HB7 := Lib.hid hb7
          clear hb7 c16
          go_wp2_with (first
            | (with_reducible refine load_p (by with_reducible rfl) _ (by with_reducible rfl) w.heap.size (by first | (simp [Act.eval]; done) | simp [Act.eval, Act.put]) H7.out ?_)
            | (go_at_call 56; (with_reducible refine (KON.out _).mono ?_)))
          rintro e w8 ⟨rfl, hb8⟩
          have H8 := Lib.hid (H7.out.call hb8)
          have HB8 := Lib.hid hb8
          clear hb8
          go_wp2_with (first
            | (with_reducible refine store_r (by with_reducible rfl) _ _ (by with_reducible rfl) (w.heap.size + 1) (p' := { pK with i := wrap64 (pK.i + 1) }) (by first | (simp [Act.eval]; done) | simp [Act.eval, Act.put]) (by first | (simp [Act.eval]; done) | simp [Act.eval, Act.put]) H8.out ?_))
          intro W2 h2 b2 e2
          go_wp2
          refine ret_p3 (k := 2) (j := 3) (i := 4) Try.results84 h2 (by simp) (by simp; rfl) (by simp; rfl) rfl ?_
          rw [HM2.out]
          exact ⟨_, rfl, (HV5.out.off (((OffP.call HB7.out).trans (OffP.call HB8.out)).trans e2) (HPT.out.below b2)), b2⟩
        · rw [if_neg hd] at hm
          obtain ⟨a', m', hf, hbx⟩ := stopX_fail (α := Nat × Int) (L := L) (l := l) (p := pK) (i := sK.pos) HLK.out.pat.1.symm
          have HM2 := Lib.hid (hm.trans hf)
          have HBX := Lib.hid hbx
          have z1 : (due l sK.pos != 125) = true := by simp [hd]
          have HI := Lib.hid HLK.out.i
          have KST := Lib.hid (fun W => rfStop L pK (sK.pos : Int) W)
          have KON := Lib.hid (fun W => rfOn L (stopX L pK (sK.pos : Int)) 1 W)
          clear hm hf hbx hd
          generalize due l sK.pos = d at *
          have KD := Lib.hid k0
          clear k0
          go_wp2_with (first
            | (with_reducible refine load_pG (by with_unfolding_all rfl) _ (by with_reducible rfl) w.heap.size (by first | (simp [Act.eval]; done) | simp [Act.eval, Act.put]) HPK.out ?_)
            | (go_at_call 55; (with_reducible refine (KD.out).mono ?_)))
          rintro e w7 ⟨rfl, hb7⟩
          have H7 := Lib.hid (HPK.out.call hb7)
          have c1 := H7.out.i
          rw [HI.out] at c1
          clear hb7 c16
          go_wp2_with (first
            | (with_reducible refine load_p (by with_reducible rfl) _ (by with_reducible rfl) w.heap.size (by first | (simp [Act.eval]; done) | simp [Act.eval, Act.put]) H7.out ?_)
            | (go_at_call 32; (with_reducible refine (KST.out _).mono ?_)))
          rintro e w8 ⟨rfl, hb8⟩
          have H8 := Lib.hid (H7.out.call hb8)
          clear hb8 c1
          go_wp2_with (first
            | (with_reducible refine store_p (by with_reducible rfl) _ _ (by with_reducible rfl) w.heap.size (p' := (stopX L pK (sK.pos : Int))) (by first | (simp [Act.eval]; done) | simp [Act.eval, Act.put]) (by first | (simp [Act.eval]; done) | simp [Act.eval, Act.put]) H8.out ?_))
          intro V9 h9 _
          have H9 := Lib.hid h9
          clear h9
          go_wp2_with (first
            | (with_reducible refine load_p (by with_reducible rfl) _ (by with_reducible rfl) w.heap.size (by first | (simp [Act.eval]; done) | simp [Act.eval, Act.put]) H9.out ?_)
            | (go_at_call 56; (with_reducible refine (KON.out _).mono ?_)))
          rintro e w10 ⟨rfl, hb10⟩
          have H10 := Lib.hid (H9.out.call hb10)
          clear hb10
          go_wp2_with (first
            | (with_reducible refine store_r (by with_reducible rfl) _ _ (by with_reducible rfl) (w.heap.size + 1) (p' := { stopX L pK (sK.pos : Int) with i := wrap64 ((stopX L pK (sK.pos : Int)).i + 1) }) (by first | (simp [Act.eval]; done) | simp [Act.eval, Act.put]) (by first | (simp [Act.eval]; done) | simp [Act.eval, Act.put]) H10.out ?_))
          intro W2 h2 b2 _
          go_wp2
          refine ret_p3 (k := 2) (j := 3) (i := 4) Try.results84 h2 (by simp) (by simp; rfl) (by simp; rfl) rfl ?_
          rw [HM2.out]
          exact ⟨_, _, _, rfl, HBX.out.on _, b2⟩
      · have z125 : (due l (s1.pos + 1) != 125) = true := by simp [h125]
        have hT2 : timesR l s = (numberR l a { s1 with pos := s1.pos + 1 }).bind fun n s => if due l s.pos = 125 then .ok (a, (n : Int)) { s with pos := s.pos + 1 } else failR l s.pos := by
          rw [HT.out, if_neg h125]
          cases numberR l a { s1 with pos := s1.pos + 1 } <;> rfl
        have KN5 := fun (W : World) (h : Lv W L l { s1 with pos := s1.pos + 1 } pB) => rfNumber_any L l { s1 with pos := s1.pos + 1 } pB a W h ha
        clear h125
        generalize due l (s1.pos + 1) = d5 at *
        have KD5 := Lib.hid kd5
        clear kd5
        cases hn5 : numberR l a { s1 with pos := s1.pos + 1 } with
        | bad a5 m5 =>
          rw [hn5] at hT2 KN5
          have HM := Lib.hid (show timesR l s = .bad a5 m5 from hT2)
          have KN6 := Lib.hid KN5
          clear hT2 KN5 hn5
          go_wp2_with (first
            | (with_reducible refine load_p (by with_reducible rfl) _ (by with_reducible rfl) w.heap.size (by first | (simp [Act.eval]; done) | simp [Act.eval, Act.put]) H5.out ?_)
            | (go_at_call 55; (with_reducible refine (KD5.out).mono ?_)))
          rintro e w6 ⟨rfl, hb6⟩
          have H6 := Lib.hid (H5.out.call hb6)
          have HLK6 := Lib.hid (HLK5.out.below hb6)
          clear hb6
          go_wp2_with (first
            | (with_reducible refine load_p (by with_reducible rfl) _ (by with_reducible rfl) w.heap.size (by first | (simp [Act.eval]; done) | simp [Act.eval, Act.put]) H6.out ?_)
            | (go_at_call 100; (with_reducible refine (KN6.out _ HLK6.out).mono ?_)))
          rintro e w7 ⟨pK, n7, rfl, hbk, hb7⟩
          have H7 := Lib.hid (H6.out.call hb7)
          have HBK := Lib.hid hbk
          clear hb7 hbk
          go_wp2_with (first
            | (with_reducible refine store_p (by with_reducible rfl) _ _ (by with_reducible rfl) w.heap.size (p' := pK) (by first | (simp [Act.eval]; done) | simp [Act.eval, Act.put]) (by first | (simp [Act.eval]; done) | simp [Act.eval, Act.put]) H7.out ?_))
          intro V1 hV1 _
          have HPK := Lib.hid hV1
          clear hV1
          have c16 := HPK.out.bad
          have z16 : (pK.bad == 0) = false := by simp [HBK.out.ne0]
          have KON := Lib.hid (fun W => rfOn L pK 1 W)
          go_wp2_with (first
            | (with_reducible refine load_p (by with_reducible rfl) _ (by with_reducible rfl) w.heap.size (by first | (simp [Act.eval]; done) | simp [Act.eval, Act.put]) HPK.out ?_)
            | (go_at_call 56; (with_reducible refine (KON.out _).mono ?_)))
          rintro e w8 ⟨rfl, hb8⟩
          have H8 := Lib.hid (HPK.out.call hb8)
          clear hb8 c16
          go_wp2_with (first
            | (with_reducible refine store_r (by with_reducible rfl) _ _ (by with_reducible rfl) (w.heap.size + 1) (p' := { pK with i := wrap64 (pK.i + 1) }) (by first | (simp [Act.eval]; done) | simp [Act.eval, Act.put]) (by first | (simp [Act.eval]; done) | simp [Act.eval, Act.put]) H8.out ?_))
          intro W2 h2 b2 _
          go_wp2
          refine ret_p3 (k := 2) (j := 3) (i := 4) Try.results84 h2 (by simp) (by simp; rfl) (by simp; rfl) rfl ?_
          rw [HM.out]
          exact ⟨_, _, _, rfl, HBK.out.on _, b2⟩
        | ok a5 s5 =>
          rw [hn5] at hT2 KN5
          have HM := Lib.hid (show timesR l s = if due l s5.pos = 125 then .ok (a, (a5 : Int)) { s5 with pos := s5.pos + 1 } else failR l s5.pos from hT2)
          have KN6 := Lib.hid KN5
          clear hT2 KN5 hn5
          go_wp2_with (first
            | (with_reducible refine load_p (by with_reducible rfl) _ (by with_reducible rfl) w.heap.size (by first | (simp [Act.eval]; done) | simp [Act.eval, Act.put]) H5.out ?_)
            | (go_at_call 55; (with_reducible refine (KD5.out).mono ?_)))
          rintro e w6 ⟨rfl, hb6⟩
          have H6 := Lib.hid (H5.out.call hb6)
          have HLK6 := Lib.hid (HLK5.out.below hb6)
          clear hb6
          go_wp2_with (first
            | (with_reducible refine load_p (by with_reducible rfl) _ (by with_reducible rfl) w.heap.size (by first | (simp [Act.eval]; done) | simp [Act.eval, Act.put]) H6.out ?_)
            | (go_at_call 100; (with_reducible refine (KN6.out _ HLK6.out).mono ?_)))
          rintro e w7 ⟨pK, rfl, hlk, hb7⟩
          have H7 := Lib.hid (H6.out.call hb7)
          have HLK7 := Lib.hid hlk
          clear hb7 hlk
          go_wp2_with (first
            | (with_reducible refine store_p (by with_reducible rfl) _ _ (by with_reducible rfl) w.heap.size (p' := pK) (by first | (simp [Act.eval]; done) | simp [Act.eval, Act.put]) (by first | (simp [Act.eval]; done) | simp [Act.eval, Act.put]) H7.out ?_))
          intro V1 hV1 o7
          have HPK := Lib.hid hV1
          have HLK := Lib.hid (HLK7.out.off o7 (HPT.out.below hV1.below))
          clear hV1 o7
          generalize hsk : s5 = sK at *
          clear hsk
          have c16 := HPK.out.bad
          rw [HLK.out.bad] at c16
          have k0 := show Calls Try.prog 55 #[pAgg L pK, .int .i64 0] V1 (RetE (.int .i64 (due l sK.pos)) fun w' => Below V1.heap.size V1 w') from rfSignL L l sK pK 0 V1 HLK.out (by omega)
          have hm := HM.out
          by_cases hd : due l sK.pos = 125
          · rw [hd] at k0
            rw [if_pos hd] at hm
            have HM2 := Lib.hid hm
            have KD := Lib.hid k0
            have hlt := due_lt hd (by decide)
            have HV5 := Lib.hid (HLK.out.on 1 hlt)
            have KON := Lib.hid (fun W => rfOn L pK 1 W)
            clear hm k0 hd
            go_wp2_with (first
              | (with_reducible refine load_pG (by with_unfolding_all rfl) _ (by with_reducible rfl) w.heap.size (by first | (simp [Act.eval]; done) | simp [Act.eval, Act.put]) HPK.out ?_)
              | (go_at_call 55; (with_reducible refine (KD.out).mono ?_)))
            rintro e w7 ⟨rfl, hb7⟩
            have H7 := Lib.hid (HPK.out.call hb7)
            have HB7 := Lib.hid hb7
            clear hb7 c16
            go_wp2_with (first
              | (with_reducible refine load_p (by with_reducible rfl) _ (by with_reducible rfl) w.heap.size (by first | (simp [Act.eval]; done) | simp [Act.eval, Act.put]) H7.out ?_)
              | (go_at_call 56; (with_reducible refine (KON.out _).mono ?_)))
            rintro e w8 ⟨rfl, hb8⟩
            have H8 := Lib.hid (H7.out.call hb8)
            have HB8 := Lib.hid hb8
            clear hb8
            go_wp2_with (first
              | (with_reducible refine store_r (by with_reducible rfl) _ _ (by with_reducible rfl) (w.heap.size + 1) (p' := { pK with i := wrap64 (pK.i + 1) }) (by first | (simp [Act.eval]; done) | simp [Act.eval, Act.put]) (by first | (simp [Act.eval]; done) | simp [Act.eval, Act.put]) H8.out ?_))
            intro W2 h2 b2 e2
            go_wp2
            refine ret_p3 (k := 2) (j := 3) (i := 4) Try.results84 h2 (by simp) (by simp; rfl) (by simp; rfl) rfl ?_
            rw [HM2.out]
            exact ⟨_, rfl, (HV5.out.off (((OffP.call HB7.out).trans (OffP.call HB8.out)).trans e2) (HPT.out.below b2)), b2⟩
          · rw [if_neg hd] at hm
            obtain ⟨a', m', hf, hbx⟩ := stopX_fail (α := Nat × Int) (L := L) (l := l) (p := pK) (i := sK.pos) HLK.out.pat.1.symm
            have HM2 := Lib.hid (hm.trans hf)
            have HBX := Lib.hid hbx
            have z1 : (due l sK.pos != 125) = true := by simp [hd]
            have HI := Lib.hid HLK.out.i
            have KST := Lib.hid (fun W => rfStop L pK (sK.pos : Int) W)
            have KON := Lib.hid (fun W => rfOn L (stopX L pK (sK.pos : Int)) 1 W)
            clear hm hf hbx hd
            generalize due l sK.pos = d at *
            have KD := Lib.hid k0
            clear k0
            go_wp2_with (first
              | (with_reducible refine load_pG (by with_unfolding_all rfl) _ (by with_reducible rfl) w.heap.size (by first | (simp [Act.eval]; done) | simp [Act.eval, Act.put]) HPK.out ?_)
              | (go_at_call 55; (with_reducible refine (KD.out).mono ?_)))
            rintro e w7 ⟨rfl, hb7⟩
            have H7 := Lib.hid (HPK.out.call hb7)
            have c1 := H7.out.i
            rw [HI.out] at c1
            clear hb7 c16
            go_wp2_with (first
              | (with_reducible refine load_p (by with_reducible rfl) _ (by with_reducible rfl) w.heap.size (by first | (simp [Act.eval]; done) | simp [Act.eval, Act.put]) H7.out ?_)
              | (go_at_call 32; (with_reducible refine (KST.out _).mono ?_)))
            rintro e w8 ⟨rfl, hb8⟩
            have H8 := Lib.hid (H7.out.call hb8)
            clear hb8 c1
            go_wp2_with (first
              | (with_reducible refine store_p (by with_reducible rfl) _ _ (by with_reducible rfl) w.heap.size (p' := (stopX L pK (sK.pos : Int))) (by first | (simp [Act.eval]; done) | simp [Act.eval, Act.put]) (by first | (simp [Act.eval]; done) | simp [Act.eval, Act.put]) H8.out ?_))
            intro V9 h9 _
            have H9 := Lib.hid h9
            clear h9
            go_wp2_with (first
              | (with_reducible refine load_p (by with_reducible rfl) _ (by with_reducible rfl) w.heap.size (by first | (simp [Act.eval]; done) | simp [Act.eval, Act.put]) H9.out ?_)
              | (go_at_call 56; (with_reducible refine (KON.out _).mono ?_)))
            rintro e w10 ⟨rfl, hb10⟩
            have H10 := Lib.hid (H9.out.call hb10)
            clear hb10
            go_wp2_with (first
              | (with_reducible refine store_r (by with_reducible rfl) _ _ (by with_reducible rfl) (w.heap.size + 1) (p' := { stopX L pK (sK.pos : Int) with i := wrap64 ((stopX L pK (sK.pos : Int)).i + 1) }) (by first | (simp [Act.eval]; done) | simp [Act.eval, Act.put]) (by first | (simp [Act.eval]; done) | simp [Act.eval, Act.put]) H10.out ?_))
            intro W2 h2 b2 _
            go_wp2
            refine ret_p3 (k := 2) (j := 3) (i := 4) Try.results84 h2 (by simp) (by simp; rfl) (by simp; rfl) rfl ?_
            rw [HM2.out]
            exact ⟨_, _, _, rfl, HBX.out.on _, b2⟩
    · have hm : mostR l a s1 = .ok (a : Int) s1 := by unfold mostR; rw [if_neg h44]
      rw [hm] at ht
      have HM := Lib.hid (show timesR l s = if due l s1.pos = 125 then .ok (a, (a : Int)) { s1 with pos := s1.pos + 1 } else failR l s1.pos from ht)
      have z44 : (due l s1.pos == 44) = false := beq_false_of_ne h44
      clear ht hm h44
      go_enter Try.func84, Try.ntmps84
      go_wp2_with (with_reducible refine box_p (by with_reducible rfl) _ (by with_reducible rfl) (L := L) (p := p) (by simp [Act.eval]) ?_)
      intro V hV bV sV
      go_wp2_with (with_reducible refine room_p (by with_reducible rfl) (by with_reducible rfl) hV ?_)
      intro W hW bW sW
      clear hV bV sV bW sW
      have H := Lib.hid hW
      have HPT := Lib.hid (HLv.out.pat)
      clear hW
      go_wp2_with (first
        | (with_reducible refine load_p (by with_reducible rfl) _ (by with_reducible rfl) w.heap.size (by first | (simp [Act.eval]; done) | simp [Act.eval, Act.put]) H.out ?_)
        | (go_at_call 100; (with_reducible refine (KN.out _ (HLv.out.below H.out.below)).mono ?_)))
      rintro e w1 ⟨pK, rfl, hlk, hb1⟩
      have H1 := Lib.hid (H.out.call hb1)
      have HLK1 := Lib.hid hlk
      clear hb1 hlk
      go_wp2_with (first
        | (with_reducible refine store_p (by with_reducible rfl) _ _ (by with_reducible rfl) w.heap.size (p' := pK) (by first | (simp [Act.eval]; done) | simp [Act.eval, Act.put]) (by first | (simp [Act.eval]; done) | simp [Act.eval, Act.put]) H1.out ?_))
      intro V0 hV0 o0
      have H2 := Lib.hid hV0
      have hlk2 := HLK1.out.off o0 (HPT.out.below hV0.below)
      have c16 := hV0.bad
      rw [hlk2.bad] at c16
      have kd := show Calls Try.prog 55 #[pAgg L pK, .int .i64 0] V0 (RetE (.int .i64 (due l s1.pos)) fun w' => Below V0.heap.size V0 w') from rfSignL L l s1 pK 0 V0 hlk2 (by omega)
      have HLK2 := Lib.hid hlk2
      clear hV0 hlk2 o0
      obtain ⟨d44, hd44⟩ : ∃ d, d = due l s1.pos := ⟨_, rfl⟩
      rw [← hd44] at kd z44
      have KD4 := Lib.hid kd
      have HD44 := Lib.hid hd44
      clear kd hd44
      go_wp2_with (first
        | (with_reducible refine load_pG (by with_unfolding_all rfl) _ (by with_reducible rfl) w.heap.size (by first | (simp [Act.eval]; done) | simp [Act.eval, Act.put]) H2.out ?_)
        | (go_at_call 55; (with_reducible refine (KD4.out).mono ?_)))
      rintro e V1 ⟨rfl, hb3⟩
      have HPK := Lib.hid (H2.out.call hb3)
      have HLK := Lib.hid (HLK2.out.below hb3)
      clear hb3 c16
      generalize hsk : s1 = sK at *
      clear hsk
      have c16 := HPK.out.bad
      rw [HLK.out.bad] at c16
      have k0 := show Calls Try.prog 55 #[pAgg L pK, .int .i64 0] V1 (RetE (.int .i64 (due l sK.pos)) fun w' => Below V1.heap.size V1 w') from rfSignL L l sK pK 0 V1 HLK.out (by omega)
      have hm := HM.out
      by_cases hd : due l sK.pos = 125
      · rw [hd] at k0
        rw [if_pos hd] at hm
        have HM2 := Lib.hid hm
        have KD := Lib.hid k0
        have hlt := due_lt hd (by decide)
        have HV5 := Lib.hid (HLK.out.on 1 hlt)
        have KON := Lib.hid (fun W => rfOn L pK 1 W)
        clear hm k0 hd
        go_wp2_with (first
          | (with_reducible refine load_pG (by with_unfolding_all rfl) _ (by with_reducible rfl) w.heap.size (by first | (simp [Act.eval]; done) | simp [Act.eval, Act.put]) HPK.out ?_)
          | (go_at_call 55; (with_reducible refine (KD.out).mono ?_)))
        rintro e w7 ⟨rfl, hb7⟩
        have H7 := Lib.hid (HPK.out.call hb7)
        have HB7 := Lib.hid hb7
        clear hb7 c16
        go_wp2_with (first
          | (with_reducible refine load_p (by with_reducible rfl) _ (by with_reducible rfl) w.heap.size (by first | (simp [Act.eval]; done) | simp [Act.eval, Act.put]) H7.out ?_)
          | (go_at_call 56; (with_reducible refine (KON.out _).mono ?_)))
        rintro e w8 ⟨rfl, hb8⟩
        have H8 := Lib.hid (H7.out.call hb8)
        have HB8 := Lib.hid hb8
        clear hb8
        go_wp2_with (first
          | (with_reducible refine store_r (by with_reducible rfl) _ _ (by with_reducible rfl) (w.heap.size + 1) (p' := { pK with i := wrap64 (pK.i + 1) }) (by first | (simp [Act.eval]; done) | simp [Act.eval, Act.put]) (by first | (simp [Act.eval]; done) | simp [Act.eval, Act.put]) H8.out ?_))
        intro W2 h2 b2 e2
        go_wp2
        refine ret_p3 (k := 2) (j := 3) (i := 4) Try.results84 h2 (by simp) (by simp; rfl) (by simp; rfl) rfl ?_
        rw [HM2.out]
        exact ⟨_, rfl, (HV5.out.off (((OffP.call HB7.out).trans (OffP.call HB8.out)).trans e2) (HPT.out.below b2)), b2⟩
      · rw [if_neg hd] at hm
        obtain ⟨a', m', hf, hbx⟩ := stopX_fail (α := Nat × Int) (L := L) (l := l) (p := pK) (i := sK.pos) HLK.out.pat.1.symm
        have HM2 := Lib.hid (hm.trans hf)
        have HBX := Lib.hid hbx
        have z1 : (due l sK.pos != 125) = true := by simp [hd]
        have HI := Lib.hid HLK.out.i
        have KST := Lib.hid (fun W => rfStop L pK (sK.pos : Int) W)
        have KON := Lib.hid (fun W => rfOn L (stopX L pK (sK.pos : Int)) 1 W)
        clear hm hf hbx hd
        generalize due l sK.pos = d at *
        have KD := Lib.hid k0
        clear k0
        go_wp2_with (first
          | (with_reducible refine load_pG (by with_unfolding_all rfl) _ (by with_reducible rfl) w.heap.size (by first | (simp [Act.eval]; done) | simp [Act.eval, Act.put]) HPK.out ?_)
          | (go_at_call 55; (with_reducible refine (KD.out).mono ?_)))
        rintro e w7 ⟨rfl, hb7⟩
        have H7 := Lib.hid (HPK.out.call hb7)
        have c1 := H7.out.i
        rw [HI.out] at c1
        clear hb7 c16
        go_wp2_with (first
          | (with_reducible refine load_p (by with_reducible rfl) _ (by with_reducible rfl) w.heap.size (by first | (simp [Act.eval]; done) | simp [Act.eval, Act.put]) H7.out ?_)
          | (go_at_call 32; (with_reducible refine (KST.out _).mono ?_)))
        rintro e w8 ⟨rfl, hb8⟩
        have H8 := Lib.hid (H7.out.call hb8)
        clear hb8 c1
        go_wp2_with (first
          | (with_reducible refine store_p (by with_reducible rfl) _ _ (by with_reducible rfl) w.heap.size (p' := (stopX L pK (sK.pos : Int))) (by first | (simp [Act.eval]; done) | simp [Act.eval, Act.put]) (by first | (simp [Act.eval]; done) | simp [Act.eval, Act.put]) H8.out ?_))
        intro V9 h9 _
        have H9 := Lib.hid h9
        clear h9
        go_wp2_with (first
          | (with_reducible refine load_p (by with_reducible rfl) _ (by with_reducible rfl) w.heap.size (by first | (simp [Act.eval]; done) | simp [Act.eval, Act.put]) H9.out ?_)
          | (go_at_call 56; (with_reducible refine (KON.out _).mono ?_)))
        rintro e w10 ⟨rfl, hb10⟩
        have H10 := Lib.hid (H9.out.call hb10)
        clear hb10
        go_wp2_with (first
          | (with_reducible refine store_r (by with_reducible rfl) _ _ (by with_reducible rfl) (w.heap.size + 1) (p' := { stopX L pK (sK.pos : Int) with i := wrap64 ((stopX L pK (sK.pos : Int)).i + 1) }) (by first | (simp [Act.eval]; done) | simp [Act.eval, Act.put]) (by first | (simp [Act.eval]; done) | simp [Act.eval, Act.put]) H10.out ?_))
        intro W2 h2 b2 _
        go_wp2
        refine ret_p3 (k := 2) (j := 3) (i := 4) Try.results84 h2 (by simp) (by simp; rfl) (by simp; rfl) rfl ?_
        rw [HM2.out]
        exact ⟨_, _, _, rfl, HBX.out.on _, b2⟩

end Go.Proofs.Ytoniccokohjenaa
