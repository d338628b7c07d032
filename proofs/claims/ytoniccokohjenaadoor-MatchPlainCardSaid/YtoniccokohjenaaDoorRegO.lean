/-
  The walks of the parser's skip, number, times (chapter 18).
-/
import Derived.Test.YtoniccokohjenaaDoorRegN
namespace Go.Proofs.YtoniccokohjenaaDoor
open Go.RowKit

theorem skip_blk {l : List Int} {p : Nat} (h : blkI (due l p) = true) : skipL false (l.drop p) = 1 + skipL false (l.drop (p + 1)) := by
  have hp : p < l.length := due_lt rfl (fun e => by rw [e] at h; exact absurd h (by decide))
  rw [List.drop_eq_getElem_cons hp, skipL, if_pos (by rw [← due_at hp]; exact h)]
theorem skip_note {l : List Int} {p : Nat} (h : due l p = 35) : skipL false (l.drop p) = 1 + skipL true (l.drop (p + 1)) := by
  have hp : p < l.length := due_lt h (by decide)
  rw [List.drop_eq_getElem_cons hp, skipL, if_neg (by rw [← due_at hp, h]; decide), if_pos (by rw [← due_at hp]; exact h)]
theorem skip_hash {l : List Int} {p : Nat} (h : due l p = 35) : skipL false (l.drop p) = skipL true (l.drop p) := by
  have hp : p < l.length := due_lt h (by decide)
  rw [List.drop_eq_getElem_cons hp, skipL, if_neg (by rw [← due_at hp, h]; decide), if_pos (by rw [← due_at hp]; exact h), skipL, if_neg (by rw [← due_at hp, h]; decide)]
theorem skip_else {l : List Int} {p : Nat} (h : blkI (due l p) = false) (h2 : due l p ≠ 35) : skipL false (l.drop p) = 0 := by
  rcases Nat.lt_or_ge p l.length with hp | hp
  · rw [List.drop_eq_getElem_cons hp, skipL, if_neg (by rw [← due_at hp, h]; decide), if_neg (by rw [← due_at hp]; exact h2)]
  · rw [List.drop_eq_nil_of_le hp]; rfl
theorem note_in {l : List Int} {p : Nat} (hp : p < l.length) (h : due l p ≠ 10) : skipL true (l.drop p) = 1 + skipL true (l.drop (p + 1)) := by
  rw [List.drop_eq_getElem_cons hp, skipL, if_neg (by rw [← due_at hp]; exact h)]
theorem note_end {l : List Int} {p : Nat} (h : l.length ≤ p ∨ due l p = 10) : skipL true (l.drop p) = skipL false (l.drop p) := by
  rcases h with hp | h
  · rw [List.drop_eq_nil_of_le hp]; rfl
  · have hp : p < l.length := due_lt h (by decide)
    have e : l[p] = 10 := by rw [← due_at hp]; exact h
    rw [List.drop_eq_getElem_cons hp, e]; simp [skipL, blkI]

section
variable (w0 : World) (g : Nat) (l : List Int) (free : Bool) (s : PS) (tk : List (List UInt8)) (w : World)
set_option maxHeartbeats 4000000 in
set_option maxRecDepth 100000 in
theorem rxSkip_any (hp : s.pos ≤ l.length) (hl : l.length ≤ 1000) (h : PrT w0 g l free s tk w) :
    Calls Tryd.prog 40 #[.pointer (some ⟨g, 0, none⟩)] w (RetE (.tuple #[]) fun w' => PrT w0 g l free (skipS' free l s) tk w' ∧ PK g w w') := by
  have H := Lib.hid h
  have c2 := h.c2
  cases free with
  | false =>
    clear h
    go_enter Tryd.func40, Tryd.ntmps40
    go_wp2
    go_loopw [] (fun wr => wr = w) (fun _ => 0)
    case atStart => rfl
    case round =>
      subst hrel
      go_wp2
      go_end0
      exact ⟨rfl, H.out, PK.refl g wr⟩
  | true =>
    clear h
    go_enter Tryd.func40, Tryd.ntmps40
    go_wp2
    go_loopw [] (fun wr => ∃ p : Nat, p ≤ l.length ∧ PrT w0 g l true { s with pos := p } tk wr ∧ PK g w wr ∧ Hid (s.pos + skipL false (l.drop s.pos) = p + skipL false (l.drop p))) (fun wr => l.length - prPos g wr)
    case atStart => exact ⟨s.pos, hp, H.out, PK.refl g w, rfl⟩
    case round =>
      obtain ⟨p, hpl, hv, hk, he⟩ := hrel
      have H1 := Lib.hid hv
      have HK := Lib.hid hk
      have c2 := hv.c2
      have hpo := hv.pos_of
      have K := Lib.hid (RetE.of (rxDue_any w0 g l true { s with pos := p } tk wr (show p ≤ 1001 by omega) hl hv))
      clear hk
      by_cases hb : blkI (due l p) = true
      · have hp2 : p < l.length := due_lt rfl (fun e => by rw [e] at hb; exact absurd hb (by decide))
        have he2 := Lib.hid (by rw [he.out, skip_blk hb]; omega : s.pos + skipL false (l.drop s.pos) = (p + 1) + skipL false (l.drop (p + 1)))
        have hd : due l p = 32 ∨ due l p = 9 ∨ due l p = 10 ∨ due l p = 13 := by
          simp only [blkI, Bool.or_eq_true, beq_iff_eq] at hb; omega
        clear hb hv
        have k0 := K.out
        simp only at k0
        generalize due l p = d at *
        have K := Lib.hid k0
        clear k0
        rcases hd with rfl | rfl | rfl | rfl <;>
        · go_wp2_with (go_at_call 41; refine K.out.mono ?_)
          rintro e w1 ⟨rfl, m, rfl⟩
          have h1 := H1.out.drewN m
          have c1 := h1.c1
          have f1 := h1.frozen 1
          have H2 := Lib.hid h1
          clear h1
          go_wp2
          go_roundw
          case rel => exact ⟨p + 1, hp2, H2.out.put_pos (p + 1), (HK.out.drewN m).setOwn 1 _, he2⟩
          case measure =>
            have hm : prPos g ((wr.drewN m).setCell ⟨g, 1, none⟩ (.int .i64 ((p : Int) + 1))) = p + 1 := (H2.out.put_pos (p + 1)).pos_of
            rw [hm, hpo]; omega
      have hb' : blkI (due l p) = false := by simpa using hb
      by_cases h35 : due l p = 35
      · have hp2 : p < l.length := due_lt h35 (by decide)
        have he2 := Lib.hid (by rw [he.out, skip_hash h35] : s.pos + skipL false (l.drop s.pos) = p + skipL true (l.drop p))
        have k0 := K.out
        simp only at k0
        rw [h35] at k0
        have K := Lib.hid k0
        clear k0 hb hb' hv
        go_wp2_with (go_at_call 41; refine K.out.mono ?_)
        rintro e w1 ⟨rfl, m, rfl⟩
        have HM := Lib.hid hpo
        have h1 := H1.out.drewN m
        have hlt1 : prPos g (wr.drewN m) = p := h1.pos_of
        have HM1 := Lib.hid hlt1
        have HK1 := Lib.hid (HK.out.drewN m)
        clear hpo hlt1
        generalize wr.drewN m = wa at *
        have H2 := Lib.hid h1
        clear h1
        go_wp2
        go_loopw [] (fun wq => ∃ q : Nat, p ≤ q ∧ (q = p → due l p = 35) ∧ q ≤ l.length ∧ PrT w0 g l true { s with pos := q } tk wq ∧ PK g w wq ∧ Hid (s.pos + skipL false (l.drop s.pos) = q + skipL true (l.drop q))) (fun wq => l.length - prPos g wq)
        case atStart => exact ⟨p, Nat.le_refl _, fun _ => h35, hpl, H2.out, HK1.out, he2⟩
        case round =>
          obtain ⟨q, hpq, hq35, hql, hv, hk, he3⟩ := hrel
          have H3 := Lib.hid hv
          have HK3 := Lib.hid hk
          have HQ := Lib.hid hq35
          have c1 := hv.c1
          obtain ⟨A, cap, c0, _⟩ := hv.c0
          have hpo3 := hv.pos_of
          have KQ0 := fun m : Nat => rxDue_any w0 g l true { s with pos := q } tk (wr.drewN m) (show q ≤ 1001 by omega) hl (hv.drewN m)
          simp only at KQ0 c1 hpo3
          have HP3 := Lib.hid hpo3
          clear hk hq35 hpo3
          by_cases hql2 : q < l.length
          · have z1 : decide ((q : Int) < (l.length : Int)) = true := decide_eq_true (by omega)
            by_cases h10 : due l q = 10
            · have he4 := Lib.hid (by rw [he3.out, note_end (.inr h10)] : s.pos + skipL false (l.drop s.pos) = q + skipL false (l.drop q))
              have hpq2 : p < q := by
                rcases Nat.lt_or_ge p q with h | h
                · exact h
                · have : q = p := by omega
                  rw [this, h35] at h10; exact absurd h10 (by decide)
              rw [h10] at KQ0
              have K3 := Lib.hid (fun m : Nat => (KQ0 m).mono (R' := fun e w'' => e = .returned (.int .i64 10) ∧ ∃ k, w'' = wr.drewN k) (by rintro e w' ⟨rfl, k, rfl⟩; exact ⟨rfl, _, rdrewN2 _ _ _⟩))
              clear KQ0 h10 hv
              go_wp2
              go_quiet (with_reducible exact K3.out _)
              go_wp2
              go_roundw
              case rel => exact ⟨q, hql, H3.out.drewN _, HK3.out.drewN _, he4⟩
              case measure =>
                have hm := (H3.out.drewN nq).pos_of
                have := HM.out
                simp only at hm
                rw [hm, this]; omega
            · have he4 := Lib.hid (by rw [he3.out, note_in hql2 h10]; omega : s.pos + skipL false (l.drop s.pos) = (q + 1) + skipL true (l.drop (q + 1)))
              have z2 : (due l q != 10) = true := by rw [bne_iff_ne]; exact h10
              have K3 := Lib.hid (fun m : Nat => (KQ0 m).mono (R' := fun e w'' => e = .returned (.int .i64 (due l q)) ∧ ∃ k, w'' = wr.drewN k) (by rintro e w' ⟨rfl, k, rfl⟩; exact ⟨rfl, _, rdrewN2 _ _ _⟩))
              clear KQ0 h10 hv
              generalize due l q = d at *
              go_wp2
              go_quiet (with_reducible exact K3.out _)
              have h4 := H3.out.drewN nq
              have c14 := h4.c1
              have f14 := h4.frozen 1
              have H4 := Lib.hid h4
              clear h4
              go_wp2
              go_roundw
              case rel => exact ⟨q + 1, by omega, fun h => by omega, hql2, H4.out.put_pos (q + 1), (HK3.out.drewN _).setOwn 1 _, he4⟩
              case measure =>
                have hm : prPos g ((wr.drewN nq).setCell ⟨g, 1, none⟩ (.int .i64 ((q : Int) + 1))) = q + 1 := (H4.out.put_pos (q + 1)).pos_of
                rw [hm, HP3.out]; omega
          · have z1 : decide ((q : Int) < (l.length : Int)) = false := decide_eq_false (by omega)
            have he4 := Lib.hid (by rw [he3.out, note_end (.inl (by omega))] : s.pos + skipL false (l.drop s.pos) = q + skipL false (l.drop q))
            clear KQ0 hv
            go_wp2
            go_quiet (fail)
            go_wp2
            go_roundw
            case rel => exact ⟨q, hql, H3.out.drewN _, HK3.out.drewN _, he4⟩
            case measure =>
              have hm := (H3.out.drewN nq).pos_of
              have := HM.out
              simp only at hm
              rw [hm, this]; omega
      · have he2 : skipS' true l s = { s with pos := p } := by
          have := he.out
          rw [skip_else hb' h35] at this
          show ({ s with pos := s.pos + skipL false (l.drop s.pos) } : PS) = _
          rw [this]; rfl
        have HE := Lib.hid he2
        have z1 : (due l p == 32) = false := by rw [blkI] at hb'; simp at hb'; simp [hb']
        have z2 : (due l p == 9) = false := by rw [blkI] at hb'; simp at hb'; simp [hb']
        have z3 : (due l p == 10) = false := by rw [blkI] at hb'; simp at hb'; simp [hb']
        have z4 : (due l p == 13) = false := by rw [blkI] at hb'; simp at hb'; simp [hb']
        have z5 : (due l p == 35) = false := beq_false_of_ne h35
        have k0 := K.out
        simp only at k0
        clear hb hb' h35 hv he he2
        generalize due l p = d at *
        have K := Lib.hid k0
        clear k0
        go_wp2_with (go_at_call 41; refine K.out.mono ?_)
        rintro e w1 ⟨rfl, m, rfl⟩
        go_wp2
        go_end0
        exact ⟨rfl, by rw [HE.out]; exact H1.out.drewN m, HK.out.drewN m⟩

theorem rxFailV (a : Nat) {a' n' : Nat} (hf : (failR l a : PR Unit) = .bad a' n') (h : PrT w0 g l free s tk w) :
    Calls Tryd.prog 25 #[.pointer (some ⟨g, 0, none⟩), .int .i64 (a : Int)] w (BdP w0 a' n') := by
  have hb := h.1
  refine (rxFail_any w0 g l free s tk w a h).mono ?_
  rintro e w' ⟨rfl, rfl⟩
  refine ⟨?_, hb⟩
  rw [failR_bad] at hf
  injection hf with h1 h2
  rw [h1, h2]
theorem failR_to {α : Type} {l : List Int} (a : Nat) : ∃ a' n', (failR l a : PR Unit) = .bad a' n' ∧ (failR l a : PR α) = .bad a' n' := ⟨_, _, failR_bad, failR_bad⟩
theorem rxDueV (hp : s.pos ≤ 1001) (hl : l.length ≤ 1000) (h : PrT w0 g l free s tk w) :
    Calls Tryd.prog 41 #[.pointer (some ⟨g, 0, none⟩)] w (RetE (.int .i64 (due l s.pos)) fun w' => PrT w0 g l free s tk w' ∧ PK g w w') :=
  (rxDue_any w0 g l free s tk w hp hl h).mono (by rintro e w' ⟨rfl, m, rfl⟩; exact ⟨rfl, h.drewN m, (PK.refl g w).drewN m⟩)
theorem digL_step {l : List Int} {p n k : Nat} (h : digI (due l p) = true) : digL (k + 1) (l.drop p) n = ((digL k (l.drop (p + 1)) (10 * n + (due l p - 48).toNat)).1, (digL k (l.drop (p + 1)) (10 * n + (due l p - 48).toNat)).2 + 1) := by
  have hp : p < l.length := due_lt rfl (fun e => by rw [e] at h; exact absurd h (by decide))
  rw [List.drop_eq_getElem_cons hp, digL, if_pos (by rw [← due_at hp]; exact h), ← due_at hp]
theorem digL_stop {l : List Int} {p n k : Nat} (h : digI (due l p) = false) : digL k (l.drop p) n = (n, 0) := by
  cases k with
  | zero => rfl
  | succ k =>
    rcases Nat.lt_or_ge p l.length with hp | hp
    · rw [List.drop_eq_getElem_cons hp, digL, if_neg (by rw [← due_at hp, h]; decide)]
    · rw [List.drop_eq_nil_of_le hp]; rfl
theorem digI_range {c : Int} (h : digI c = true) : 48 ≤ c ∧ c ≤ 57 := by simpa [digI] using h
theorem failR_if {α : Type} {l : List Int} {a : Nat} : (failR l a : PR α) = .bad (if l.length ≤ a then l.length else a) (if l.length ≤ a then 5 else 2) := by
  unfold failR; split <;> rfl

set_option maxHeartbeats 4000000 in
set_option maxRecDepth 100000 in
theorem rxNumber_any (least : Nat) (_ : least ≤ 255) (hf : Fin1 l s) (h : PrV w0 g l free s w) :
    Calls Tryd.prog 54 #[.pointer (some ⟨g, 0, none⟩), .int .i64 (least : Int)] w (ResV w0 g l free w (fun n : Nat => .int .i64 (n : Int)) (numberR l least s)) := by
  have H := Lib.hid h
  have HF := Lib.hid hf
  have hp := hf.pos
  have hl := hf.len
  clear h
  generalize hq : digL 3 (l.drop s.pos) 0 = q
  have HQ := Lib.hid hq
  have hn : numberR l least s = if q.2 = 0 then failR l s.pos else if 255 < q.1 ∨ q.1 < least then failR l (s.pos + q.2 - 1) else .ok q.1 { s with pos := s.pos + q.2 } := by unfold numberR; rw [hq]
  have HN := Lib.hid hn
  have hql := digL_le 3 (l.drop s.pos) 0
  rw [hq, List.length_drop] at hql
  clear hn hq
  go_enter Tryd.func54, Tryd.ntmps54
  go_wp2
  go_loopw [5, 6] (fun nv mv wr => ∃ n k : Nat, nv = .int .i64 (n : Int) ∧ mv = .int .i64 (k : Int) ∧ k ≤ 3 ∧ n + 1 ≤ 10 ^ k ∧ s.pos + k ≤ l.length ∧ PrV w0 g l free { s with pos := s.pos + k } wr ∧ PK g w wr ∧ Hid (q = ((digL (3 - k) (l.drop (s.pos + k)) n).1, (digL (3 - k) (l.drop (s.pos + k)) n).2 + k))) (fun _ mv _ => 3 - (intOf mv).toNat)
  case atStart => exact ⟨0, 0, rfl, rfl, by omega, by omega, hp, H.out, PK.refl g w, by rw [← HQ.out]; rfl⟩
  case round =>
    obtain ⟨n, k, rfl, rfl, hk3, hnk, hpk, hv, hk, he⟩ := hrel
    have H1 := Lib.hid hv
    have HK := Lib.hid hk
    have hb := hv.1
    have HB := Lib.hid hb
    have KD := fun (W : World) (h : PrV w0 g l free { s with pos := s.pos + k } W) => rxDueV w0 g l free { s with pos := s.pos + k } s.names W (show s.pos + k ≤ 1001 by omega) hl h
    have KF := Lib.hid (fun (W : World) (a a' n' : Nat) (hf : (failR l a : PR Unit) = .bad a' n') (h : PrV w0 g l free { s with pos := s.pos + k } W) => rxFailV w0 g l free { s with pos := s.pos + k } s.names W a hf h)
    have KI := fun W => RetE.of (rxDigit_any (due l (s.pos + k)) W)
    simp only at KD
    have hnk2 : n + 1 ≤ 1000 := Nat.le_trans hnk (by have := Nat.pow_le_pow_right (show 0 < 10 by omega) hk3; omega)
    clear hk hb
    by_cases hgo : k < 3 ∧ digI (due l (s.pos + k)) = true
    · obtain ⟨k3, hd⟩ := hgo
      have z1 : decide ((k : Int) < 3) = true := decide_eq_true (by omega)
      have hlt : s.pos + k < l.length := due_lt rfl (fun e => by rw [e] at hd; exact absurd hd (by decide))
      have hr := digI_range hd
      have e3 : 3 - k = (3 - (k + 1)) + 1 := by omega
      have he2 := Lib.hid (by rw [he.out, e3, digL_step hd, Nat.add_assoc]; exact Prod.ext rfl (by simp only; omega) : q = ((digL (3 - (k + 1)) (l.drop (s.pos + (k + 1))) (10 * n + (due l (s.pos + k) - 48).toNat)).1, (digL (3 - (k + 1)) (l.drop (s.pos + (k + 1))) (10 * n + (due l (s.pos + k) - 48).toNat)).2 + (k + 1)))
      rw [hd] at KI
      have hpow : 10 ^ (k + 1) = 10 * 10 ^ k := by rw [Nat.pow_succ, Nat.mul_comm]
      clear hd hv
      generalize due l (s.pos + k) = d at *
      obtain ⟨c, rfl⟩ : ∃ c : Nat, d = ((c + 48 : Nat) : Int) := ⟨(d - 48).toNat, by omega⟩
      have ec : (((c + 48 : Nat) : Int) - 48).toNat = c := by omega
      rw [ec] at he2
      have K1 := Lib.hid KD
      have K2 := Lib.hid KI
      have hc9 : c ≤ 9 := by omega
      have hnew := Lib.hid (by rw [hpow]; omega : 10 * n + c + 1 ≤ 10 ^ (k + 1))
      clear KD KI ec hr hnk hpow e3 hql
      have a1 : wrap64 (10 * (n : Int)) = 10 * (n : Int) := by unfold wrap64; omega
      have a2 : wrap64 (10 * (n : Int) + ((c + 48 : Nat) : Int)) = 10 * (n : Int) + ((c + 48 : Nat) : Int) := by unfold wrap64; omega
      have a3 : wrap64 (10 * (n : Int) + ((c + 48 : Nat) : Int) - 48) = ((10 * n + c : Nat) : Int) := by unfold wrap64; omega
      go_wp2_with (go_at_call 41; refine (K1.out _ H1.out).mono ?_)
      rintro e w1 ⟨rfl, h1, k1⟩
      have H2 := Lib.hid h1
      have HK1 := Lib.hid (HK.out.trans k1)
      clear h1 k1
      go_wp2_with (go_at_call 58; refine (K2.out _).mono ?_)
      rintro e w2 ⟨rfl, rfl⟩
      go_wp2_with (go_at_call 41; refine (K1.out _ H2.out).mono ?_)
      rintro e w3 ⟨rfl, h1, k1⟩
      have H3 := Lib.hid h1
      have HK3 := Lib.hid (HK1.out.trans k1)
      have c14 := h1.c1
      have f14 := h1.frozen 1
      clear h1 k1
      go_wp2
      go_roundw
      case rel => exact ⟨10 * n + c, k + 1, congrArg (Value.int IntKind.i64) (by omega), rfl, by omega, hnew.out, by omega, H3.out.put_pos (s.pos + (k + 1)), HK3.out.setOwn 1 _, he2⟩
      case measure => simp [intOf]; omega
    · have hz : digL (3 - k) (l.drop (s.pos + k)) n = (n, 0) := by
        by_cases k3 : k < 3
        · exact digL_stop (by simpa using fun e => hgo ⟨k3, e⟩)
        · have : 3 - k = 0 := by omega
          rw [this]; rfl
      have hqe : q = (n, k) := by rw [he.out, hz]; exact Prod.ext rfl (Nat.zero_add k)
      subst hqe
      by_cases k3 : k < 3
      · have hd : digI (due l (s.pos + k)) = false := by simpa using fun e => hgo ⟨k3, e⟩
        have z1 : decide ((k : Int) < 3) = true := decide_eq_true (by omega)
        rw [hd] at KI
        have K2 := Lib.hid KI
        clear KI hd hz hgo hv hnk hql he
        generalize due l (s.pos + k) = d at *
        generalize hP : s.pos + k = P at *
        have K1 := Lib.hid KD
        clear KD
        by_cases hk0 : k = 0
        · obtain ⟨a', n', hfa, hfb⟩ := failR_to (α := Nat) (l := l) P
          have hr : numberR l least s = .bad a' n' := by rw [HN.out, if_pos hk0, ← hfb, ← hP, hk0]; rfl
          have KF1 := Lib.hid (fun (W : World) => KF.out W P a' n' hfa)
          have HR := Lib.hid hr
          have z2 : ((k : Int) == 0) = true := by rw [hk0]; rfl
          clear hr
          go_wp2_with (go_at_call 41; refine (K1.out _ H1.out).mono ?_)
          rintro e w1 ⟨rfl, h1, k1⟩
          have H2 := Lib.hid h1
          have HK1 := Lib.hid (HK.out.trans k1)
          have c14 := h1.c1
          clear h1 k1
          go_wp2_with (go_at_call 58; refine (K2.out _).mono ?_)
          rintro e w2 ⟨rfl, rfl⟩
          go_wp2_with (go_at_call 25; refine (KF1.out _ H2.out).mono ?_)
          rintro e w3 ⟨rfl, hb3⟩
          unfold stopE
          go_wp2
          rw [HR.out]
          exact ⟨rfl, rfl, hb3⟩
        by_cases hbig : 255 < n
        · obtain ⟨a', n', hfa, hfb⟩ := failR_to (α := Nat) (l := l) (P - 1)
          have hr : numberR l least s = .bad a' n' := by rw [HN.out, if_neg hk0, if_pos (.inl hbig), ← hfb]
          have HR := Lib.hid hr
          have z2 : ((k : Int) == 0) = false := beq_false_of_ne (by omega)
          have z3 : decide ((255 : Int) < (n : Int)) = true := decide_eq_true (by omega)
          have ek : (P : Int) - 1 = ((P - 1 : Nat) : Int) := by omega
          have KF2 := Lib.hid (fun (W : World) (h : PrV w0 g l free { s with pos := P } W) => KF.out W (P - 1) a' n' hfa h)
          clear hr
          go_wp2_with (go_at_call 41; refine (K1.out _ H1.out).mono ?_)
          rintro e w1 ⟨rfl, h1, k1⟩
          have H2 := Lib.hid h1
          have HK1 := Lib.hid (HK.out.trans k1)
          have c14 := h1.c1
          clear h1 k1
          go_wp2_with (go_at_call 58; refine (K2.out _).mono ?_)
          rintro e w2 ⟨rfl, rfl⟩
          go_wp2_with (go_at_call 25; refine (KF2.out _ H2.out).mono ?_)
          rintro e w3 ⟨rfl, hb3⟩
          unfold stopE
          go_wp2
          rw [HR.out]
          exact ⟨rfl, rfl, hb3⟩
        by_cases hsm : n < least
        · obtain ⟨a', n', hfa, hfb⟩ := failR_to (α := Nat) (l := l) (P - 1)
          have hr : numberR l least s = .bad a' n' := by rw [HN.out, if_neg hk0, if_pos (.inr hsm), ← hfb]
          have HR := Lib.hid hr
          have z2 : ((k : Int) == 0) = false := beq_false_of_ne (by omega)
          have z3 : decide ((255 : Int) < (n : Int)) = false := decide_eq_false (by omega)
          have z4 : decide ((n : Int) < (least : Int)) = true := decide_eq_true (by omega)
          have ek : (P : Int) - 1 = ((P - 1 : Nat) : Int) := by omega
          have KF2 := Lib.hid (fun (W : World) (h : PrV w0 g l free { s with pos := P } W) => KF.out W (P - 1) a' n' hfa h)
          clear hr
          go_wp2_with (go_at_call 41; refine (K1.out _ H1.out).mono ?_)
          rintro e w1 ⟨rfl, h1, k1⟩
          have H2 := Lib.hid h1
          have HK1 := Lib.hid (HK.out.trans k1)
          have c14 := h1.c1
          clear h1 k1
          go_wp2_with (go_at_call 58; refine (K2.out _).mono ?_)
          rintro e w2 ⟨rfl, rfl⟩
          go_wp2_with (go_at_call 25; refine (KF2.out _ H2.out).mono ?_)
          rintro e w3 ⟨rfl, hb3⟩
          unfold stopE
          go_wp2
          rw [HR.out]
          exact ⟨rfl, rfl, hb3⟩
        · have hr : numberR l least s = .ok n { s with pos := P } := by rw [HN.out, if_neg hk0, if_neg (fun h => by omega)]
          have HR := Lib.hid hr
          have z2 : ((k : Int) == 0) = false := beq_false_of_ne (by omega)
          have z3 : decide ((255 : Int) < (n : Int)) = false := decide_eq_false (by omega)
          have z4 : decide ((n : Int) < (least : Int)) = false := decide_eq_false (by omega)
          clear hr
          go_wp2_with (go_at_call 41; refine (K1.out _ H1.out).mono ?_)
          rintro e w1 ⟨rfl, h1, k1⟩
          have H2 := Lib.hid h1
          have HK1 := Lib.hid (HK.out.trans k1)
          have c14 := h1.c1
          clear h1 k1
          go_wp2_with (go_at_call 58; refine (K2.out _).mono ?_)
          rintro e w2 ⟨rfl, rfl⟩
          go_wp2
          go_ret
          rw [HR.out]
          exact ⟨rfl, H2.out, HK1.out⟩
      · have z1 : decide ((k : Int) < 3) = false := decide_eq_false (by omega)
        clear KD KI hz hgo hv hnk hql he
        generalize hP : s.pos + k = P at *
        by_cases hk0 : k = 0
        · exact absurd k3 (by omega)
        by_cases hbig : 255 < n
        · obtain ⟨a', n', hfa, hfb⟩ := failR_to (α := Nat) (l := l) (P - 1)
          have hr : numberR l least s = .bad a' n' := by rw [HN.out, if_neg hk0, if_pos (.inl hbig), ← hfb]
          have HR := Lib.hid hr
          have z2 : ((k : Int) == 0) = false := beq_false_of_ne (by omega)
          have z3 : decide ((255 : Int) < (n : Int)) = true := decide_eq_true (by omega)
          have ek : (P : Int) - 1 = ((P - 1 : Nat) : Int) := by omega
          have KF2 := Lib.hid (fun (W : World) (h : PrV w0 g l free { s with pos := P } W) => KF.out W (P - 1) a' n' hfa h)
          clear hr
          have H2 := H1
          have HK1 := HK
          have c14 := H1.out.c1
          go_wp2_with (go_at_call 25; refine (KF2.out _ H2.out).mono ?_)
          rintro e w3 ⟨rfl, hb3⟩
          unfold stopE
          go_wp2
          rw [HR.out]
          exact ⟨rfl, rfl, hb3⟩
        by_cases hsm : n < least
        · obtain ⟨a', n', hfa, hfb⟩ := failR_to (α := Nat) (l := l) (P - 1)
          have hr : numberR l least s = .bad a' n' := by rw [HN.out, if_neg hk0, if_pos (.inr hsm), ← hfb]
          have HR := Lib.hid hr
          have z2 : ((k : Int) == 0) = false := beq_false_of_ne (by omega)
          have z3 : decide ((255 : Int) < (n : Int)) = false := decide_eq_false (by omega)
          have z4 : decide ((n : Int) < (least : Int)) = true := decide_eq_true (by omega)
          have ek : (P : Int) - 1 = ((P - 1 : Nat) : Int) := by omega
          have KF2 := Lib.hid (fun (W : World) (h : PrV w0 g l free { s with pos := P } W) => KF.out W (P - 1) a' n' hfa h)
          clear hr
          have H2 := H1
          have HK1 := HK
          have c14 := H1.out.c1
          go_wp2_with (go_at_call 25; refine (KF2.out _ H2.out).mono ?_)
          rintro e w3 ⟨rfl, hb3⟩
          unfold stopE
          go_wp2
          rw [HR.out]
          exact ⟨rfl, rfl, hb3⟩
        · have hr : numberR l least s = .ok n { s with pos := P } := by rw [HN.out, if_neg hk0, if_neg (fun h => by omega)]
          have HR := Lib.hid hr
          have z2 : ((k : Int) == 0) = false := beq_false_of_ne (by omega)
          have z3 : decide ((255 : Int) < (n : Int)) = false := decide_eq_false (by omega)
          have z4 : decide ((n : Int) < (least : Int)) = false := decide_eq_false (by omega)
          clear hr
          have H2 := H1
          have HK1 := HK
          have c14 := H1.out.c1
          go_wp2
          go_ret
          rw [HR.out]
          exact ⟨rfl, H2.out, HK1.out⟩

set_option maxHeartbeats 2000000 in
set_option maxRecDepth 100000 in
theorem rxTimes_any (hf : Fin1 l s) (h : PrV w0 g l free s w) :
    Calls Tryd.prog 48 #[.pointer (some ⟨g, 0, none⟩)] w (ResV w0 g l free w (fun q : Nat × Int => .tuple #[.int .i64 (q.1 : Int), .int .i64 q.2]) (timesR l s)) := by
  have H := Lib.hid h
  have K1 := Lib.hid (rxNumber_any w0 g l free s w 0 (by omega) hf h)
  have ht : timesR l s = (numberR l 0 s).bind fun a s => (mostR l a s).bind fun b s => if due l s.pos = 125 then .ok (a, b) { s with pos := s.pos + 1 } else failR l s.pos := rfl
  clear h
  cases hn : numberR l 0 s with
  | bad a n =>
    rw [hn] at ht K1
    have HT := Lib.hid ht
    clear ht hn
    have k1 : Calls Tryd.prog 54 #[.pointer (some ⟨g, 0, none⟩), .int .i64 ((0 : Nat) : Int)] w (BdP w0 a n) := K1.out
    have K1 := Lib.hid k1
    clear k1
    go_enter Tryd.func48, Tryd.ntmps48
    go_wp2_with (go_at_call 54; refine K1.out.mono ?_)
    rintro e w3 ⟨rfl, hb3⟩
    unfold stopE
    go_wp2
    rw [HT.out]
    exact ⟨rfl, rfl, hb3⟩
  | ok a s1 =>
    rw [hn] at ht K1
    have had := number_adv hn
    have hf1 := hf.adv had.1
    have ht1 : timesR l s = (mostR l a s1).bind fun b s => if due l s.pos = 125 then .ok (a, b) { s with pos := s.pos + 1 } else failR l s.pos := ht
    have k1 : Calls Tryd.prog 54 #[.pointer (some ⟨g, 0, none⟩), .int .i64 ((0 : Nat) : Int)] w (OkV w0 g l free s1 w (.int .i64 (a : Int))) := K1.out
    have K1 := Lib.hid k1
    have ha := had.2.1
    clear ht hn k1
    by_cases h44 : due l s1.pos = 44
    · have hlt := due_lt h44 (by decide)
      have hfy : Fin1 l { s1 with pos := s1.pos + 1 } := hf1.adv (.step h44 (by decide))
      have K2 := Lib.hid (fun W h => RetE.of (rxTakes_yes w0 g l free s1 s1.names W 44 hf.len h44 (by decide) h))
      have KD := Lib.hid (fun W h => rxDueV w0 g l free { s1 with pos := s1.pos + 1 } s1.names W (show s1.pos + 1 ≤ 1001 by have := hf.len; omega) hf.len h)
      have KN := Lib.hid (fun W h => rxNumber_any w0 g l free { s1 with pos := s1.pos + 1 } W a ha hfy h)
      have hm : mostR l a s1 = if due l (s1.pos + 1) = 125 then (.ok (-1 : Int) { s1 with pos := s1.pos + 1 }) else (numberR l a { s1 with pos := s1.pos + 1 }).bind fun n s => PR.ok (n : Int) s := by unfold mostR; rw [if_pos h44]
      clear h44
      by_cases h125 : due l (s1.pos + 1) = 125
      · rw [if_pos h125] at hm
        rw [hm] at ht1
        have ht2 : timesR l s = if due l (s1.pos + 1) = 125 then PR.ok ((a, (-1 : Int)) : Nat × Int) { s1 with pos := s1.pos + 1 + 1 } else failR l (s1.pos + 1) := ht1
        have HT := Lib.hid (by rw [ht2, if_pos h125] : timesR l s = .ok ((a, (-1 : Int)) : Nat × Int) { s1 with pos := s1.pos + 1 + 1 })
        have K9 := Lib.hid (fun W h => RetE.of (rxTakes_yes w0 g l free { s1 with pos := s1.pos + 1 } s1.names W 125 hf.len h125 (by decide) h))
        have kd := KD.out
        simp only [h125] at kd
        have KD := Lib.hid kd
        clear ht2 h125 hm ht1 kd
        go_enter Tryd.func48, Tryd.ntmps48
        go_wp2_with (go_at_call 54; refine K1.out.mono ?_)
        rintro e w1 ⟨rfl, h1, k1⟩
        have H1 := Lib.hid h1
        have HK := Lib.hid k1
        clear h1 k1
        go_wp2_with (go_at_call 33; refine (K2.out _ H1.out).mono ?_)
        rintro e w2 ⟨rfl, h2, k2⟩
        have H2 := Lib.hid h2
        have HK2 := Lib.hid (HK.out.trans k2)
        clear h2 k2
        go_wp2_with (go_at_call 41; refine (KD.out _ H2.out).mono ?_)
        rintro e w3 ⟨rfl, h3, k3⟩
        have H3 := Lib.hid h3
        have HK3 := Lib.hid (HK2.out.trans k3)
        clear h3 k3
        go_wp2_with (go_at_call 33; refine (K9.out _ H3.out).mono ?_)
        rintro e w9 ⟨rfl, h9, k9⟩
        go_wp2
        go_ret2
        rw [HT.out]
        exact ⟨rfl, h9, HK3.out.trans k9⟩
      · rw [if_neg h125] at hm
        have z1 : (due l (s1.pos + 1) != 125) = true := by rw [bne_iff_ne]; exact h125
        have kd := KD.out
        simp only at kd
        clear h125 hlt
        generalize due l (s1.pos + 1) = d at *
        have KD := Lib.hid kd
        clear kd
        cases hn2 : numberR l a { s1 with pos := s1.pos + 1 } with
        | bad a2 n2 =>
          rw [hm, hn2] at ht1
          have HT := Lib.hid (show timesR l s = .bad a2 n2 from ht1)
          have kn := KN.out
          rw [hn2] at kn
          have KN := Lib.hid (fun (W : World) (h : PrV w0 g l free { s1 with pos := s1.pos + 1 } W) => (show Calls Tryd.prog 54 #[.pointer (some ⟨g, 0, none⟩), .int .i64 (a : Int)] W (BdP w0 a2 n2) from kn W h))
          clear ht1 hm hn2 kn
          go_enter Tryd.func48, Tryd.ntmps48
          go_wp2_with (go_at_call 54; refine K1.out.mono ?_)
          rintro e w1 ⟨rfl, h1, k1⟩
          have H1 := Lib.hid h1
          have HK := Lib.hid k1
          clear h1 k1
          go_wp2_with (go_at_call 33; refine (K2.out _ H1.out).mono ?_)
          rintro e w2 ⟨rfl, h2, k2⟩
          have H2 := Lib.hid h2
          have HK2 := Lib.hid (HK.out.trans k2)
          clear h2 k2
          go_wp2_with (go_at_call 41; refine (KD.out _ H2.out).mono ?_)
          rintro e w3 ⟨rfl, h3, k3⟩
          have H3 := Lib.hid h3
          clear h3 k3
          go_wp2_with (go_at_call 54; refine (KN.out _ H3.out).mono ?_)
          rintro e w4 ⟨rfl, hb4⟩
          unfold stopE
          go_wp2
          rw [HT.out]
          exact ⟨rfl, rfl, hb4⟩
        | ok v s2 =>
          rw [hm, hn2] at ht1
          have ht2 : timesR l s = if due l s2.pos = 125 then .ok (a, (v : Int)) { s2 with pos := s2.pos + 1 } else failR l s2.pos := ht1
          have hfx := hfy.adv (number_adv hn2).1
          have kn := KN.out
          rw [hn2] at kn
          have KN := Lib.hid (fun (W : World) (h : PrV w0 g l free { s1 with pos := s1.pos + 1 } W) => (show Calls Tryd.prog 54 #[.pointer (some ⟨g, 0, none⟩), .int .i64 (a : Int)] W (OkV w0 g l free s2 W (.int .i64 (v : Int))) from kn W h))
          clear ht1 hm hn2 kn
          by_cases hc : due l s2.pos = 125
          · have HT := Lib.hid (by rw [ht2, if_pos hc] : timesR l s = .ok (a, (v : Int)) { s2 with pos := s2.pos + 1 })
            have K9 := Lib.hid (fun W h => RetE.of (rxTakes_yes w0 g l free s2 s2.names W 125 hfx.len hc (by decide) h))
            clear ht2 hc
            go_enter Tryd.func48, Tryd.ntmps48
            go_wp2_with (go_at_call 54; refine K1.out.mono ?_)
            rintro e w1 ⟨rfl, h1, k1⟩
            have H1 := Lib.hid h1
            have HK := Lib.hid k1
            clear h1 k1
            go_wp2_with (go_at_call 33; refine (K2.out _ H1.out).mono ?_)
            rintro e w2 ⟨rfl, h2, k2⟩
            have H2 := Lib.hid h2
            have HK2 := Lib.hid (HK.out.trans k2)
            clear h2 k2
            go_wp2_with (go_at_call 41; refine (KD.out _ H2.out).mono ?_)
            rintro e w3 ⟨rfl, h3, k3⟩
            have H3 := Lib.hid h3
            have HK3 := Lib.hid (HK2.out.trans k3)
            clear h3 k3
            go_wp2_with (go_at_call 54; refine (KN.out _ H3.out).mono ?_)
            rintro e w4 ⟨rfl, h4, k4⟩
            have HX := Lib.hid h4
            have HKX := Lib.hid (HK3.out.trans k4)
            clear h4 k4
            go_wp2_with (go_at_call 33; refine (K9.out _ HX.out).mono ?_)
            rintro e w9 ⟨rfl, h9, k9⟩
            go_wp2
            go_ret2
            rw [HT.out]
            exact ⟨rfl, h9, HKX.out.trans k9⟩
          · obtain ⟨a', n', hfa, hfb⟩ := failR_to (α := Nat × Int) (l := l) s2.pos
            have HT := Lib.hid (by rw [ht2, if_neg hc, hfb] : timesR l s = .bad a' n')
            have K9 := Lib.hid (fun W h => RetE.of (rxTakes_no w0 g l free s2 s2.names W 125 (by have := hfx.pos; have := hfx.len; omega) hfx.len hc h))
            have KF := Lib.hid (fun W h => rxFailV w0 g l free s2 s2.names W s2.pos hfa h)
            clear ht2 hc hfa hfb
            go_enter Tryd.func48, Tryd.ntmps48
            go_wp2_with (go_at_call 54; refine K1.out.mono ?_)
            rintro e w1 ⟨rfl, h1, k1⟩
            have H1 := Lib.hid h1
            have HK := Lib.hid k1
            clear h1 k1
            go_wp2_with (go_at_call 33; refine (K2.out _ H1.out).mono ?_)
            rintro e w2 ⟨rfl, h2, k2⟩
            have H2 := Lib.hid h2
            have HK2 := Lib.hid (HK.out.trans k2)
            clear h2 k2
            go_wp2_with (go_at_call 41; refine (KD.out _ H2.out).mono ?_)
            rintro e w3 ⟨rfl, h3, k3⟩
            have H3 := Lib.hid h3
            have HK3 := Lib.hid (HK2.out.trans k3)
            clear h3 k3
            go_wp2_with (go_at_call 54; refine (KN.out _ H3.out).mono ?_)
            rintro e w4 ⟨rfl, h4, k4⟩
            have HX := Lib.hid h4
            have HKX := Lib.hid (HK3.out.trans k4)
            clear h4 k4
            go_wp2_with (go_at_call 33; refine (K9.out _ HX.out).mono ?_)
            rintro e w9 ⟨rfl, h9, k9⟩
            have c19 := h9.c1
            have H9 := Lib.hid h9
            clear h9 k9
            go_wp2_with (go_at_call 25; refine (KF.out _ H9.out).mono ?_)
            rintro e w3 ⟨rfl, hb3⟩
            unfold stopE
            go_wp2
            rw [HT.out]
            exact ⟨rfl, rfl, hb3⟩
    · have hm : mostR l a s1 = .ok (a : Int) s1 := by unfold mostR; rw [if_neg h44]
      rw [hm] at ht1
      have ht2 : timesR l s = if due l s1.pos = 125 then .ok (a, (a : Int)) { s1 with pos := s1.pos + 1 } else failR l s1.pos := ht1
      have hfx := hf1
      have K2 := Lib.hid (fun W h => RetE.of (rxTakes_no w0 g l free s1 s1.names W 44 (by have := hf1.pos; have := hf1.len; omega) hf.len h44 h))
      clear ht1 hm h44
      by_cases hc : due l s1.pos = 125
      · have HT := Lib.hid (by rw [ht2, if_pos hc] : timesR l s = .ok (a, (a : Int)) { s1 with pos := s1.pos + 1 })
        have K9 := Lib.hid (fun W h => RetE.of (rxTakes_yes w0 g l free s1 s1.names W 125 hfx.len hc (by decide) h))
        clear ht2 hc
        go_enter Tryd.func48, Tryd.ntmps48
        go_wp2_with (go_at_call 54; refine K1.out.mono ?_)
        rintro e w1 ⟨rfl, h1, k1⟩
        have H1 := Lib.hid h1
        have HK := Lib.hid k1
        clear h1 k1
        go_wp2_with (go_at_call 33; refine (K2.out _ H1.out).mono ?_)
        rintro e w2 ⟨rfl, h2, k2⟩
        have H2 := Lib.hid h2
        have HK2 := Lib.hid (HK.out.trans k2)
        clear h2 k2
        have HX := H2
        have HKX := HK2
        go_wp2_with (go_at_call 33; refine (K9.out _ HX.out).mono ?_)
        rintro e w9 ⟨rfl, h9, k9⟩
        go_wp2
        go_ret2
        rw [HT.out]
        exact ⟨rfl, h9, HKX.out.trans k9⟩
      · obtain ⟨a', n', hfa, hfb⟩ := failR_to (α := Nat × Int) (l := l) s1.pos
        have HT := Lib.hid (by rw [ht2, if_neg hc, hfb] : timesR l s = .bad a' n')
        have K9 := Lib.hid (fun W h => RetE.of (rxTakes_no w0 g l free s1 s1.names W 125 (by have := hfx.pos; have := hfx.len; omega) hfx.len hc h))
        have KF := Lib.hid (fun W h => rxFailV w0 g l free s1 s1.names W s1.pos hfa h)
        clear ht2 hc hfa hfb
        go_enter Tryd.func48, Tryd.ntmps48
        go_wp2_with (go_at_call 54; refine K1.out.mono ?_)
        rintro e w1 ⟨rfl, h1, k1⟩
        have H1 := Lib.hid h1
        have HK := Lib.hid k1
        clear h1 k1
        go_wp2_with (go_at_call 33; refine (K2.out _ H1.out).mono ?_)
        rintro e w2 ⟨rfl, h2, k2⟩
        have H2 := Lib.hid h2
        have HK2 := Lib.hid (HK.out.trans k2)
        clear h2 k2
        have HX := H2
        have HKX := HK2
        go_wp2_with (go_at_call 33; refine (K9.out _ HX.out).mono ?_)
        rintro e w9 ⟨rfl, h9, k9⟩
        have c19 := h9.c1
        have H9 := Lib.hid h9
        clear h9 k9
        go_wp2_with (go_at_call 25; refine (KF.out _ H9.out).mono ?_)
        rintro e w3 ⟨rfl, hb3⟩
        unfold stopE
        go_wp2
        rw [HT.out]
        exact ⟨rfl, rfl, hb3⟩
end
end Go.Proofs.YtoniccokohjenaaDoor
