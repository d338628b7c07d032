/-
  The walk of valid's Check (chapter 9).
  The walk of valid's One (chapter 9).
  The walks of shown, of the reference's Same (chapter 9).
-/
import Derived.Test.YtojapomkmfbciaaDoorValWc
import Derived.Test.YtojapomkmfbciaaDoorValH
import Derived.Deep.DeepCutAuto
import Derived.Test.YtojapomkmfbciaaDoorValPl
import Derived.Test.YtojapomkmfbciaaDoorCon
namespace Go.Proofs.YtojapomkmfbciaaDoor
open Go.RowKit

/-- what Check answers: the spans in a row of the call's own, the fault -/
def IsChk (l : List UInt8) (d : Nat) (w w' : World) (e : Ending) : Prop :=
  ∃ sp, e = .returned (.tuple #[sp, .agg #[.int .i64 ((checkV l d).2.1 : Int), .int .i64 ((checkV l d).2.2 : Int)]]) ∧ w'.ownsRow w.heap.size 42 2 sp (checkV l d).1.length (spanCells (checkV l d).1) ∧ Below w.heap.size w w'

theorem zeroBits : (List.range 200).all (fun i => match Tryd.zeroCells71[4 + i]? with | some (.bool false) => true | _ => false) = true := by kernel_rfl
theorem zeroSize : Tryd.zeroCells71.size = 210 := by kernel_rfl
theorem zeroRest : (Tryd.zeroCells71[1]?, Tryd.zeroCells71[2]?, Tryd.zeroCells71[204]?, Tryd.zeroCells71[205]?, Tryd.zeroCells71[206]?, Tryd.zeroCells71[207]?, Tryd.zeroCells71[208]?, Tryd.zeroCells71[209]?) =
    (some (.int .i64 0), some (.int .i64 0), some (.int .i64 0), some (.int .i64 0), some (.slice none 0 0), some (.int .i64 0), some (.int .i64 0), some (.bool false)) := by kernel_rfl
theorem rd_start (A : Option Addr) (n cap d : Nat) : RdC ((Tryd.zeroCells71.setIfInBounds 0 (.slice A n cap)).setIfInBounds 3 (.int .i64 (d : Int))) A n cap d startS (.slice none 0 0) := by
  have z := zeroRest
  simp only [Prod.mk.injEq] at z
  obtain ⟨z1, z2, z3, z4, z5, z6, z7, z8⟩ := z
  have e : ∀ i, i ≠ 0 → i ≠ 3 → ((Tryd.zeroCells71.setIfInBounds 0 (.slice A n cap)).setIfInBounds 3 (.int .i64 (d : Int)))[i]? = Tryd.zeroCells71[i]? := fun i h0 h3 => by
    rw [set_ne _ _ (Ne.symm h3), set_ne _ _ (Ne.symm h0)]
  refine ⟨by rw [Array.size_setIfInBounds, Array.size_setIfInBounds]; exact zeroSize, ?_, (e _ (by decide) (by decide)).trans z1, (e _ (by decide) (by decide)).trans z2, ?_, fun i hi => ⟨false, ?_, fun h => ?_⟩, (e _ (by decide) (by decide)).trans z3, (e _ (by decide) (by decide)).trans z4, (e _ (by decide) (by decide)).trans z5, (e _ (by decide) (by decide)).trans z6, (e _ (by decide) (by decide)).trans z7, (e _ (by decide) (by decide)).trans z8⟩
  · rw [set_ne _ _ (by decide), set_eq _ _ (by rw [zeroSize]; decide)]
  · rw [set_eq _ _ (by rw [Array.size_setIfInBounds, zeroSize]; decide)]
  · rw [e _ (by omega) (by omega)]
    have := List.all_eq_true.1 zeroBits i (List.mem_range.2 hi)
    cases h : Tryd.zeroCells71[4 + i]? with
    | none => rw [h] at this; cases this
    | some v =>
      rw [h] at this
      cases v with
      | bool b => cases b with
        | false => rfl
        | true => cases this
      | _ => cases this
  · exact absurd h (Nat.not_lt_zero _)

set_option maxRecDepth 100000 in
theorem check_results {tmps : Array Value} {W : World} {a : Nat} {sp x y : Value} (h4 : tmps.getD 4 undef = sp) (h5 : tmps.getD 5 undef = .pointer (some ⟨a, 0, none⟩))
    (c0 : W.cell? ⟨a, 0, none⟩ = some x) (c1 : W.cell? ⟨a, 1, none⟩ = some y) : (results Tryd.f21 tmps).run Tryd.prog W = .ok (.tuple #[sp, .agg #[x, y]]) W := by
  have h4' : tmps[4]?.getD undef = sp := by simpa using h4
  have h5' : tmps[5]?.getD undef = .pointer (some ⟨a, 0, none⟩) := by simpa using h5
  simp [results, Tryd.results21, go_sem, h4', h5', c0, c1]

/-- the end of Check, wherever it comes from -/
theorem check_end {w W1 wr W' : World} {A : Option Addr} {n cap d g : Nat} {l : List UInt8} {s : VS} {sp : Value} {tmps : Array Value} (hA : At W1 A n cap d g l s wr) (hq : W1.heap[w.heap.size]? = some (.cells #[.int .i64 0, .int .i64 0] 37 (0, 0)))
    (hsz : W1.heap.size = w.heap.size + 1) (hBW : Below w.heap.size w W1) (h6 : wr.cell? ⟨g, 206, none⟩ = some sp) (p q : Nat) (hchk : checkV l d = (s.spans, (p, q))) (h4 : tmps.getD 4 undef = sp) (h5 : tmps.getD 5 undef = .pointer (some ⟨w.heap.size, 0, none⟩))
    (hW : W' = ((wr.setCell ⟨w.heap.size, 0, none⟩ (.int .i64 (p : Int))).setCell ⟨w.heap.size, 1, none⟩ (.int .i64 (q : Int))) ∨ W' = ((wr.setCell ⟨w.heap.size, 0, none⟩ (.int .i64 (p : Int))).setCell ⟨w.heap.size, 1, none⟩ (.int .i64 (q : Int))).drew) :
    bodyPost Tryd.prog Tryd.f21 (fun e w' => IsChk l d w w' e) Exit.ret { tmps := tmps, defers := [] } W' := by
  have hqq := (hA.rd.1.block w.heap.size (by rw [hsz]; omega)).trans hq
  obtain ⟨_, _, _, ho⟩ := hA.rd.heap h6
  have h1 := heap_set (k := 0) hqq (.int .i64 (p : Int))
  have h2 := heap_set (k := 1) h1 (.int .i64 (q : Int))
  have o1 := owns_far (k := 0) ho hqq (by decide) (.int .i64 (p : Int))
  have o2 := owns_far (k := 1) o1 h1 (by decide) (.int .i64 (q : Int))
  have hb := (hBW.trans (hA.rd.1.mono (by rw [hsz]; omega))).setCell (p := ⟨w.heap.size, 0, none⟩) (Nat.le_refl _) (.int .i64 (p : Int))
  have hb2 := hb.setCell (p := ⟨w.heap.size, 1, none⟩) (Nat.le_refl _) (.int .i64 (q : Int))
  have hheap : W'.heap[w.heap.size]? = some (.cells #[.int .i64 (p : Int), .int .i64 (q : Int)] 37 (0, 0)) := by rcases hW with rfl | rfl <;> exact h2
  have hown : W'.ownsRow W1.heap.size 42 2 sp s.spans.length (spanCells s.spans) := by rcases hW with rfl | rfl <;> exact o2
  have hbel : Below w.heap.size w W' := by
    rcases hW with rfl | rfl
    · exact hb2
    · exact hb2.drew
  refine bodyPost_ret (check_results h4 h5 ((Lib.cell_of_heap hheap 0).trans rfl) ((Lib.cell_of_heap hheap 1).trans rfl)) rfl ⟨sp, by rw [hchk]; rfl, ?_, hbel⟩
  rw [hchk]
  refine ⟨hown.1, ?_⟩
  rcases hown.2 with h3 | ⟨g', cap', cur, hv, hg, r⟩
  · exact .inl h3
  · exact .inr ⟨g', cap', cur, hv, by omega, r⟩

set_option maxHeartbeats 4000000 in
set_option maxRecDepth 100000 in
theorem valCheck_any (A : Option Addr) (n cap : Nat) (l : List UInt8) (dd : Int) (w : World) (hT : Tabs w) (hR : RdB w A n l) (hn : n ≤ 1073741824) (hcap : n ≤ cap) :
    Calls Tryd.prog 21 #[.slice A n cap, .int .i64 dd] w fun e w' => IsChk l (clampV dd) w w' e := by
  obtain ⟨d, hd⟩ : ∃ d, clampV dd = d := ⟨_, rfl⟩
  rw [hd]
  have hmm : max 0 (min dd 200) = (d : Int) := by unfold clampV at hd; omega
  have HD := Lib.hid (show d ≤ 200 by unfold clampV at hd; omega)
  have HMM := Lib.hid hmm
  clear hd hmm
  have HT := Lib.hid hT
  have HR := Lib.hid hR
  clear hT hR
  go_enter Tryd.func21, Tryd.ntmps21
  go_upto_region 1 with fail
  go_cut [6] (fun v wx => ∃ g, v = .pointer (some ⟨g, 0, none⟩) ∧ At (w.alloc (.cells #[.int .i64 0, .int .i64 0] 37)) A n cap d g l startS wx)
  case first =>
    go_wp2_with fail
    rw [HMM.out]
    go_meet
    have hbA := (Below.refl w.heap.size w).alloc (Nat.le_refl _) (.cells #[.int .i64 0, .int .i64 0] 37)
    refine ⟨w.heap.size + 1, rfl, ⟨(Below.refl _ _).alloc (Nat.le_refl _) _, by rw [World.size_alloc]; exact Nat.le_refl _, _, .slice none 0 0, heap_nw _ (by rw [World.size_alloc]), rd_start A n cap d, World.ownsRow_nil _ _ _ _⟩, HR.out.below hbA, hn, HT.out.below hbA (Nat.le_refl _), hcap⟩
  case rest =>
    obtain ⟨g, rfl, hat⟩ := hcut
    have hq : (w.alloc (.cells #[.int .i64 0, .int .i64 0] 37)).heap[w.heap.size]? = some (.cells #[.int .i64 0, .int .i64 0] 37 (0, 0)) := heap_nw _ rfl
    have hBW : Below w.heap.size w (w.alloc (.cells #[.int .i64 0, .int .i64 0] 37)) := (Below.refl w.heap.size w).alloc (Nat.le_refl _) _
    have hsz : (w.alloc (.cells #[.int .i64 0, .int .i64 0] 37)).heap.size = w.heap.size + 1 := World.size_alloc ..
    generalize w.alloc (.cells #[.int .i64 0, .int .i64 0] 37) = W1 at *
    have HQ := Lib.hid hq
    have HBW := Lib.hid hBW
    have HSZ := Lib.hid hsz
    have HL := Lib.hid hat.len
    clear hq hBW hsz
    go_wp2_with fail
    go_loopg [] n (fun kx wr => ∃ (s : VS) (f : Nat), f ≤ kx ∧ Hid (At W1 A n cap d g l s wr) ∧ Hid (KeptV l d s) ∧ Hid (s.fault = none → n ≤ s.pos + f) ∧ Hid (checkS l d = endV l (runV l d f s)))
    case atStart => exact ⟨startS, n, Nat.le_refl _, hat, kept_start l d, Lib.hid (fun _ => Nat.le_add_left _ _), Lib.hid (by unfold checkS; rw [HL.out])⟩
    case round =>
      obtain ⟨s, f, hf, hA, hK, hM, hC⟩ := hrel
      have ha := hA.out
      have c1 := ha.rd.cpos
      have c2 := ha.rd.cst
      have c9 := ha.rd.cfailed
      have g1 := ha.rd.frozen 1
      have g2 := ha.rd.frozen 2
      clear ha
      by_cases hlt : s.pos < n
      · cases hft : s.fault with
        | none =>
          rw [hft] at c9
          have hgo : goesV l s := ⟨by rw [HL.out]; exact hlt, hft⟩
          have hM2 := hM.out hft
          obtain ⟨f', rfl⟩ : ∃ f', f = f' + 1 := ⟨f - 1, by omega⟩
          obtain ⟨kr1, kr2⟩ := kept_round l d s hK.out hgo
          have KR1 := Lib.hid kr1
          have KR2 := Lib.hid (show (roundV l d s).fault = none → n ≤ (roundV l d s).pos + f' from fun h => by have := kr2 h; omega)
          have KC := Lib.hid (hC.out.trans (congrArg (endV l) (run_go l d f' s hgo)))
          obtain ⟨b, off, rfl, hc⟩ := hA.out.cell hlt
          have hx := bt_lt l s.pos
          have hbl := fun W => valBlank_any (bt l s.pos) W hx
          have hsp : s.spans.length ≤ 1073741824 := by have := hK.out.2; rw [if_pos hft] at this; omega
          have hst := fun (W : World) (hW : At W1 (some ⟨b, off, none⟩) n cap d g l s W) => valStep_any W1 (some ⟨b, off, none⟩) n cap d g l s W (bt l s.pos) HD.out hK.out.1 hsp hW
          have hrd : roundV l d s = if blankB (bt l s.pos) = true then { s with pos := s.pos + 1, st := if s.st = 1 then 0 else s.st } else stepV l d (bt l s.pos) s := rfl
          have KB := Lib.hid hbl
          have KS := Lib.hid hst
          have HRD := Lib.hid hrd
          clear hbl hst hrd kr1 kr2 hft hgo hM2 hsp
          generalize bt l s.pos = c at *
          obtain ⟨x, hxx⟩ : ∃ x, blankB c = x := ⟨_, rfl⟩
          rw [hxx] at KB HRD
          clear hxx
          cases x with
          | true =>
            by_cases h1 : s.st = 1
            · rw [h1] at c2
              have HE := Lib.hid (show roundV l d s = { s with pos := s.pos + 1, st := 0 } by rw [HRD.out, if_pos rfl, if_pos h1])
              clear h1
              go_wp2_with (go_at_call 34; refine (KB.out _).mono ?_; rintro e w1 ⟨rfl, rfl⟩)
              go_roundg f'
              case measure => omega
              case rel => exact ⟨roundV l d s, f', Nat.le_refl _, Lib.hid (by rw [HE.out]; exact hA.out.of ((hA.out.rd.put_st 0).put_pos (s.pos + 1))), KR1, KR2, KC⟩
            · have b1 : ((s.st : Int) == 1) = false := by simp; omega
              have HE := Lib.hid (show roundV l d s = { s with pos := s.pos + 1 } by rw [HRD.out, if_pos rfl, if_neg h1])
              clear h1
              go_wp2_with (go_at_call 34; refine (KB.out _).mono ?_; rintro e w1 ⟨rfl, rfl⟩)
              go_roundg f'
              case measure => omega
              case rel => exact ⟨roundV l d s, f', Nat.le_refl _, Lib.hid (by rw [HE.out]; exact hA.out.of (hA.out.rd.put_pos (s.pos + 1))), KR1, KR2, KC⟩
          | false =>
            have HE := Lib.hid (show roundV l d s = stepV l d c s by rw [HRD.out, if_neg (by decide)])
            go_wp2_with (first | (go_at_call 34; refine (KB.out _).mono ?_; rintro e w1 ⟨rfl, rfl⟩) | (go_at_call 35; refine (KS.out _ hA.out).mono ?_))
            rintro e w1 ⟨rfl, h1⟩
            go_wp2_with fail
            go_roundg f'
            case measure => omega
            case rel => exact ⟨roundV l d s, f', Nat.le_refl _, Lib.hid (by rw [HE.out]; exact h1), KR1, KR2, KC⟩
        | some pq =>
          rw [hft] at c9
          have hE := hC.out.trans (congrArg (endV l) (run_stop l d f s (fun hg => by have := hg.2; rw [hft] at this; cases this)))
          have hE2 : endV l s = s := by unfold endV; rw [hft]; rfl
          rw [hE2] at hE
          have HE := Lib.hid hE
          obtain ⟨sp, c6, ho⟩ := hA.out.rd.csp
          have c7 := hA.out.rd.cfat
          have c8 := hA.out.rd.cwhy
          rw [hft] at c7 c8
          have HO := Lib.hid ho
          have HFT := Lib.hid hft
          have hBb := hA.out.rd.1
          have hqq := (hBb.block w.heap.size (by rw [HSZ.out]; omega)).trans HQ.out
          have q0 : wr.cell? ⟨w.heap.size, 0, none⟩ = some (.int .i64 0) := by rw [Lib.cell_of_heap hqq]; rfl
          have q1 : wr.cell? ⟨w.heap.size, 1, none⟩ = some (.int .i64 0) := by rw [Lib.cell_of_heap hqq]; rfl
          have z0 : wr.frozen? ⟨w.heap.size, 0, none⟩ = false := Lib.frozen_of_heap hqq 0
          have z1 : wr.frozen? ⟨w.heap.size, 1, none⟩ = false := Lib.frozen_of_heap hqq 1
          have HQQ := Lib.hid hqq
          clear hft hE hE2 ho hBb hqq
          go_wp2_with fail
          go_region
          all_goals
            go_wp2_with fail
            exact check_end hA.out HQ.out HSZ.out HBW.out c6 pq.1 pq.2 (by unfold checkV; rw [HE.out, HFT.out]; rfl) rfl rfl (.inr rfl)
      · have hgo : ¬ goesV l s := fun g => hlt (by have := g.1; rw [HL.out] at this; exact this)
        have hE := hC.out.trans (congrArg (endV l) (run_stop l d f s hgo))
        have HE := Lib.hid hE
        have hBb := hA.out.rd.1
        have hqq := (hBb.block w.heap.size (by rw [HSZ.out]; omega)).trans HQ.out
        have dlt : n ≤ s.pos := by omega
        clear hgo hE hlt
        cases hft : s.fault with
        | some pq =>
          rw [hft] at c9
          have hE2 : endV l s = s := by unfold endV; rw [hft]; rfl
          have HE2 := Lib.hid (HE.out.trans hE2)
          obtain ⟨sp, c6, ho⟩ := hA.out.rd.csp
          have c7 := hA.out.rd.cfat
          have c8 := hA.out.rd.cwhy
          rw [hft] at c7 c8
          have HFT := Lib.hid hft
          have q0 : wr.cell? ⟨w.heap.size, 0, none⟩ = some (.int .i64 0) := by rw [Lib.cell_of_heap hqq]; rfl
          have q1 : wr.cell? ⟨w.heap.size, 1, none⟩ = some (.int .i64 0) := by rw [Lib.cell_of_heap hqq]; rfl
          have z0 : wr.frozen? ⟨w.heap.size, 0, none⟩ = false := Lib.frozen_of_heap hqq 0
          have z1 : wr.frozen? ⟨w.heap.size, 1, none⟩ = false := Lib.frozen_of_heap hqq 1
          clear hft hE2 ho hBb hqq
          go_wp2_with fail
          go_region
          all_goals
            go_wp2_with fail
            exact check_end hA.out HQ.out HSZ.out HBW.out c6 pq.1 pq.2 (by unfold checkV; rw [HE2.out, HFT.out]; rfl) rfl rfl (.inr rfl)
        | none =>
          rw [hft] at c9
          by_cases hst : s.st = 0 ∨ s.st = 1
          · have hE2 : endV l s = { s with fault := some (l.length, 0) } := by unfold endV; rw [if_pos hft, if_pos hst]
            have HE2 := Lib.hid (HE.out.trans hE2)
            obtain ⟨sp, c6, ho⟩ := hA.out.rd.csp
            have q0 : wr.cell? ⟨w.heap.size, 0, none⟩ = some (.int .i64 0) := by rw [Lib.cell_of_heap hqq]; rfl
            have q1 : wr.cell? ⟨w.heap.size, 1, none⟩ = some (.int .i64 0) := by rw [Lib.cell_of_heap hqq]; rfl
            have z0 : wr.frozen? ⟨w.heap.size, 0, none⟩ = false := Lib.frozen_of_heap hqq 0
            have z1 : wr.frozen? ⟨w.heap.size, 1, none⟩ = false := Lib.frozen_of_heap hqq 1
            have HC2 := Lib.hid (show checkV l d = (s.spans, (n, 0)) by unfold checkV; rw [HE2.out]; show (s.spans, (l.length, 0)) = _; rw [HL.out])
            clear hft hE2 ho hBb hqq
            rcases hst with hst | hst
            all_goals
              rw [hst] at c2
              clear hst
              go_wp2_with fail
              exact check_end hA.out HQ.out HSZ.out HBW.out c6 n 0 HC2.out rfl rfl (.inl rfl)
          · have hE2 : endV l s = wrongV l l.length s := by unfold endV; rw [if_pos hft, if_neg hst]
            have HE2 := Lib.hid (HE.out.trans hE2)
            have b0 : ((s.st : Int) == 0) = false := by simp; omega
            have b1 : ((s.st : Int) == 1) = false := by simp; omega
            have KW := Lib.hid (valWrong_any W1 A n cap d g s wr l n HL.out hA.out.rd)
            clear hft hE2 hBb hqq hst
            go_wp2_with (go_at_call 36; refine KW.out.mono ?_)
            rintro e w2 ⟨rfl, h2⟩
            have HA2 := Lib.hid (hA.out.of h2)
            have hqq := (HA2.out.rd.1.block w.heap.size (by rw [HSZ.out]; omega)).trans HQ.out
            obtain ⟨sp, c6, ho⟩ := HA2.out.rd.csp
            have c7 := HA2.out.rd.cfat
            have c8 := HA2.out.rd.cwhy
            have hwf : (wrongV l n s).fault = some (n, 2) := by unfold wrongV; rw [if_pos (by rw [HL.out]; exact Nat.le_refl _), HL.out]
            rw [hwf] at c7 c8
            have q0 : w2.cell? ⟨w.heap.size, 0, none⟩ = some (.int .i64 0) := by rw [Lib.cell_of_heap hqq]; rfl
            have q1 : w2.cell? ⟨w.heap.size, 1, none⟩ = some (.int .i64 0) := by rw [Lib.cell_of_heap hqq]; rfl
            have z0 : w2.frozen? ⟨w.heap.size, 0, none⟩ = false := Lib.frozen_of_heap hqq 0
            have z1 : w2.frozen? ⟨w.heap.size, 1, none⟩ = false := Lib.frozen_of_heap hqq 1
            have HC2 := Lib.hid (show checkV l d = ((wrongV l n s).spans, (n, 2)) by unfold checkV; rw [HE2.out, HL.out, hwf]; rfl)
            clear h2 ho hqq hwf c1 c2 c9 g1 g2
            go_wp2_with fail
            go_region
            all_goals
              go_wp2_with fail
              exact check_end HA2.out HQ.out HSZ.out HBW.out c6 n 2 HC2.out rfl rfl (.inr rfl)

end Go.Proofs.YtojapomkmfbciaaDoor

namespace Go.Proofs.YtojapomkmfbciaaDoor
open Go.RowKit

/-- a row of spans, read -/
def RdS (w : World) (sp : Value) (L : List (Nat × Nat)) : Prop :=
  (L = [] ∧ ∃ A cap, sp = .slice A 0 cap) ∨ ∃ g cap, sp = .slice (some ⟨g, 0, none⟩) L.length cap ∧ g < w.heap.size ∧ ∀ i p, L[i]? = some p → w.cell? ⟨g, i * 2, none⟩ = some (.int .i64 (p.1 : Int)) ∧ w.cell? ⟨g, i * 2 + 1, none⟩ = some (.int .i64 (p.2 : Int))
theorem spanCells_get : ∀ (L : List (Nat × Nat)) (i : Nat) (p : Nat × Nat), L[i]? = some p → (spanCells L)[i * 2]? = some (.int .i64 (p.1 : Int)) ∧ (spanCells L)[i * 2 + 1]? = some (.int .i64 (p.2 : Int))
  | [], _, _, h => by simp at h
  | q :: L, 0, p, h => by
    simp only [List.getElem?_cons_zero, Option.some.injEq] at h
    subst h; exact ⟨rfl, rfl⟩
  | q :: L, i + 1, p, h => by
    have := spanCells_get L i p (by simpa using h)
    have e : spanCells (q :: L) = Value.int .i64 (q.1 : Int) :: .int .i64 (q.2 : Int) :: spanCells L := rfl
    rw [e, show (i + 1) * 2 = i * 2 + 1 + 1 by omega, show i * 2 + 1 + 1 + 1 = (i * 2 + 1) + 1 + 1 by omega]
    simp only [List.getElem?_cons_succ]
    exact this
theorem rdS_of {w : World} {B : Nat} {sp : Value} {L : List (Nat × Nat)} (h : w.ownsRow B 42 2 sp L.length (spanCells L)) : RdS w sp L := by
  rcases h.2 with ⟨hv, h0⟩ | ⟨g, cap, cur, hv, hg, hh, r⟩
  · exact .inl ⟨List.eq_nil_of_length_eq_zero h0, none, 0, hv⟩
  · refine .inr ⟨g, cap, hv, (Array.getElem?_eq_some_iff.1 hh).1, fun i p hp => ?_⟩
    have hadd : ∀ j, (⟨g, 0, none⟩ : Addr).add j = ⟨g, j, none⟩ := fun j => by unfold Addr.add; split <;> simp_all
    obtain ⟨a, b⟩ := spanCells_get L i p hp
    have k1 := h.cells (g := g) (by rw [hv]; rfl) _ _ a
    have k2 := h.cells (g := g) (by rw [hv]; rfl) _ _ b
    rw [hadd] at k1 k2
    exact ⟨k1, k2⟩
theorem RdS.below {w w' : World} {sp : Value} {L : List (Nat × Nat)} (h : RdS w sp L) (hb : Below w.heap.size w w') : RdS w' sp L := by
  rcases h with h | ⟨g, cap, hv, hg, hc⟩
  · exact .inl h
  · refine .inr ⟨g, cap, hv, Nat.lt_of_lt_of_le hg hb.size, fun i p hp => ?_⟩
    obtain ⟨a, b⟩ := hc i p hp
    exact ⟨(hb.cell (p := ⟨g, _, none⟩) hg).trans a, (hb.cell (p := ⟨g, _, none⟩) hg).trans b⟩
theorem RdS.slice {w : World} {sp : Value} {L : List (Nat × Nat)} (h : RdS w sp L) : ∃ A cap, sp = .slice A L.length cap := by
  rcases h with ⟨rfl, A, cap, h⟩ | ⟨g, cap, hv, _⟩
  · exact ⟨A, cap, h⟩
  · exact ⟨_, cap, hv⟩

/-- what Check answers, as it is used -/
theorem valCheck_rd (A : Option Addr) (n cap : Nat) (l : List UInt8) (dd : Int) (w : World) (hT : Tabs w) (hR : RdB w A n l) (hn : n ≤ 1073741824) (hcap : n ≤ cap) :
    Calls Tryd.prog 21 #[.slice A n cap, .int .i64 dd] w fun e w' => ∃ B c, e = .returned (.tuple #[.slice B (checkV l (clampV dd)).1.length c, .agg #[.int .i64 ((checkV l (clampV dd)).2.1 : Int), .int .i64 ((checkV l (clampV dd)).2.2 : Int)]]) ∧ RdS w' (.slice B (checkV l (clampV dd)).1.length c) (checkV l (clampV dd)).1 ∧ Below w.heap.size w w' :=
  (valCheck_any A n cap l dd w hT hR hn hcap).mono fun e w' ⟨sp, he, ho, hb⟩ => by
    have hr := rdS_of ho
    obtain ⟨B, c, rfl⟩ := hr.slice
    exact ⟨B, c, he, hr, hb⟩

set_option maxHeartbeats 2000000 in
set_option maxRecDepth 100000 in
theorem valOne_any (A : Option Addr) (n cap : Nat) (l : List UInt8) (w : World) (hT : Tabs w) (hR : RdB w A n l) (hn : n ≤ 1073741824) (hcap : n ≤ cap) :
    Calls Tryd.prog 22 #[.slice A n cap] w fun e w' => e = .returned (.bool (oneV l)) ∧ Below w.heap.size w w' := by
  have k1 := valCheck_rd A n cap l 200 w hT hR hn hcap
  have hcl : clampV 200 = 200 := rfl
  rw [hcl] at k1
  have hone : oneV l = ((checkV l 200).2.2 == 0 && (checkV l 200).1 == [(0, n)]) := by unfold oneV; rw [hR.1]
  rw [hone]
  generalize checkV l 200 = C at *
  obtain ⟨L, a, y⟩ := C
  simp only [] at k1 hone ⊢
  obtain ⟨X, hX⟩ : ∃ X, (y == 0 && L == [(0, n)]) = X := ⟨_, rfl⟩
  rw [hX]
  have HX := Lib.hid hX
  have K1 := Lib.hid k1
  clear k1 hone hcl hX hT hR
  go_enter Tryd.func22, Tryd.ntmps22
  go_wp2_with (go_at_call 21; refine K1.out.mono ?_)
  rintro e w1 ⟨B, c, rfl, hr, hb⟩
  have hb2 : Below w.heap.size w (w1.alloc (.cells #[.int .i64 (a : Int), .int .i64 (y : Int)] 37)) := hb.alloc hb.size _
  by_cases hy : y = 0
  · subst hy
    by_cases hl : L.length = 1
    · obtain ⟨p1, p2, rfl⟩ : ∃ p1 p2, L = [(p1, p2)] := by
        match L, hl with
        | [p], _ => exact ⟨p.1, p.2, rfl⟩
      rcases hr with ⟨h, _⟩ | ⟨g, cap', hv, hg, hc⟩
      · cases h
      · injection hv with e1 _ e3
        subst e1
        subst e3
        obtain ⟨d0, d1⟩ := hc 0 (p1, p2) rfl
        rw [Nat.zero_mul] at d0 d1
        rw [Nat.zero_add] at d1
        have HB2 := Lib.hid hb2
        have HG := Lib.hid hg
        clear hc hl hb2 K1
        go_wp2
        all_goals
          go_ret
          refine ⟨ret_bool ?_, HB2.out⟩
          rw [← HX.out, Bool.eq_iff_iff]
          simp
          omega
    · have hlb : ((L.length : Int) == 1) = false := by simp; omega
      have HB2 := Lib.hid hb2
      have HL := Lib.hid hl
      clear hr hl hb2 K1
      generalize hm : L.length = m at *
      have HM := Lib.hid hm
      clear hm
      go_wp2
      go_ret
      refine ⟨ret_bool ?_, HB2.out⟩
      rw [← HX.out]
      symm
      rw [Bool.and_eq_false_iff]
      right
      apply beq_false_of_ne
      intro e
      rw [e] at HM
      exact HL.out (by rw [← HM.out]; rfl)
  · have hyb : ((y : Int) == 0) = false := by simp; omega
    have HB2 := Lib.hid hb2
    have HY := Lib.hid hy
    clear hr hy hb2 K1
    generalize L.length = m at *
    go_wp2
    go_ret
    refine ⟨ret_bool ?_, HB2.out⟩
    rw [← HX.out, beq_false_of_ne HY.out, Bool.false_and]

end Go.Proofs.YtojapomkmfbciaaDoor

namespace Go.Proofs.YtojapomkmfbciaaDoor
open Go.RowKit

theorem vshown_1 : checkV [91, 49, 93, 32, 116, 114, 117, 101] 9 = ([(0, 3), (4, 8)], (8, 0)) := by decide +kernel
theorem vshown_2 : checkV [49, 50, 120] 9 = ([], (2, 1)) := by decide +kernel
theorem vshown_3 : checkV [91, 91, 49, 93, 93] 1 = ([], (1, 3)) := by decide +kernel
theorem vshown_4 : oneV [91, 93] = true := by decide +kernel

theorem check_lit (l : List UInt8) (hl : l.length ≤ 100) (dd : Int) (L : List (Nat × Nat)) (a y : Nat) (hc : checkV l (clampV dd) = (L, (a, y))) (W : World) (hT : Tabs W) (fz : Nat × Nat) :
    Calls Tryd.prog 21 #[.slice (some ⟨W.heap.size, 0, none⟩) l.length l.length, .int .i64 dd] (W.alloc (.cells (Lib.byteCells l).toArray 5 fz)) fun e w' => ∃ B c, e = .returned (.tuple #[.slice B L.length c, .agg #[.int .i64 (a : Int), .int .i64 (y : Int)]]) ∧ RdS w' (.slice B L.length c) L ∧ Below W.heap.size W w' := by
  have h := valCheck_rd (some ⟨W.heap.size, 0, none⟩) l.length l.length l dd (W.alloc (.cells (Lib.byteCells l).toArray 5 fz)) (hT.below ((Below.refl _ W).alloc (Nat.le_refl _) _) (Nat.le_refl _)) (rdB_new W l _ fz) (by omega) (Nat.le_refl _)
  rw [hc] at h
  refine h.mono fun e w' ⟨B, c, h1, h2, h3⟩ => ⟨B, c, h1, h2, ?_⟩
  exact ((Below.refl _ W).alloc (Nat.le_refl _) _).trans (h3.mono (by simp))
theorem one_lit (l : List UInt8) (hl : l.length ≤ 100) (W : World) (hT : Tabs W) (fz : Nat × Nat) :
    Calls Tryd.prog 22 #[.slice (some ⟨W.heap.size, 0, none⟩) l.length l.length] (W.alloc (.cells (Lib.byteCells l).toArray 5 fz)) fun e w' => e = .returned (.bool (oneV l)) ∧ Below W.heap.size W w' := by
  refine (valOne_any (some ⟨W.heap.size, 0, none⟩) l.length l.length l (W.alloc (.cells (Lib.byteCells l).toArray 5 fz)) (hT.below ((Below.refl _ W).alloc (Nat.le_refl _) _) (Nat.le_refl _)) (rdB_new W l _ fz) (by omega) (Nat.le_refl _)).mono fun e w' h => ⟨h.1, ?_⟩
  exact ((Below.refl _ W).alloc (Nat.le_refl _) _).trans (h.2.mono (by simp))

/-- a fault in a block of its own -/
theorem cells2_new (w : World) (x y : Value) (T : TypeId) : (w.alloc (.cells #[x, y] T)).cell? ⟨w.heap.size, 0, none⟩ = some x ∧ (w.alloc (.cells #[x, y] T)).cell? ⟨w.heap.size, 1, none⟩ = some y :=
  ⟨by rw [World.cell?_alloc_at (hn := rfl)]; rfl, by rw [World.cell?_alloc_at (hn := rfl)]; rfl⟩
theorem cells2_later {w w' : World} {B g : Nat} {x y : Value} (h : w.cell? ⟨g, 0, none⟩ = some x ∧ w.cell? ⟨g, 1, none⟩ = some y) (hg : g < B) (hb : Below B w w') : w'.cell? ⟨g, 0, none⟩ = some x ∧ w'.cell? ⟨g, 1, none⟩ = some y :=
  ⟨(hb.cell (p := ⟨g, 0, none⟩) hg).trans h.1, (hb.cell (p := ⟨g, 1, none⟩) hg).trans h.2⟩

set_option maxHeartbeats 4000000 in
set_option maxRecDepth 100000 in
theorem valShown_any (w : World) (hT : Tabs w) :
    Calls Tryd.prog 20 #[] w fun e w' => e = .returned (.bool true) ∧ Below w.heap.size w w' := by
  have HT := Lib.hid hT
  have kc := fun (w : World) (C : Array Value) (n c : Nat) => Lib.run_convert_bytes_const (P := Tryd.prog) w 26 5 C n c Tryd.underlying26 Tryd.underlying5
  have K1 := Lib.hid (fun (W : World) (h : Tabs W) => check_lit [91, 49, 93, 32, 116, 114, 117, 101] (by decide) 9 _ _ _ vshown_1 W h (8, 9))
  have K2 := Lib.hid (fun (W : World) (h : Tabs W) => check_lit [49, 50, 120] (by decide) 9 _ _ _ vshown_2 W h (3, 4))
  have K3 := Lib.hid (fun (W : World) (h : Tabs W) => check_lit [91, 91, 49, 93, 93] (by decide) 1 _ _ _ vshown_3 W h (5, 6))
  have K4 := Lib.hid (fun (W : World) (h : Tabs W) => one_lit [91, 93] (by decide) W h (2, 3))
  clear hT
  go_enter Tryd.func20, Tryd.ntmps20
  go_wp2_with fail
  refine (K1.out w HT.out).mono ?_
  rintro e w1 ⟨B1, c1, rfl, r1, b1⟩
  go_upto_region 2 with fail
  have f1 := cells2_new w1 (.int .i64 8) (.int .i64 0) 37
  have t1 := r1.below ((Below.refl _ w1).alloc (Nat.le_refl _) (.cells #[.int .i64 8, .int .i64 0] 37))
  have y1 := b1.alloc b1.size (.cells #[.int .i64 8, .int .i64 0] 37)
  have s1 : w1.heap.size < (w1.alloc (.cells #[.int .i64 8, .int .i64 0] 37)).heap.size := by rw [World.size_alloc]; omega
  clear r1 b1
  generalize w1.heap.size = g1 at *
  generalize w1.alloc (.cells #[.int .i64 8, .int .i64 0] 37) = W1 at *
  clear w1
  have F1 := Lib.hid f1
  have T1 := Lib.hid t1
  have Y1 := Lib.hid y1
  have S1 := Lib.hid s1
  clear f1 t1 y1 s1
  go_wp2_with fail
  refine (K2.out W1 (HT.out.below Y1.out (Nat.le_refl _))).mono ?_
  rintro e w2 ⟨B2, c2, rfl, r2, b2⟩
  go_upto_region 3 with fail
  have f2 := cells2_new w2 (.int .i64 2) (.int .i64 1) 37
  have a2 := b2.alloc b2.size (.cells #[.int .i64 2, .int .i64 1] 37)
  have s2 : w2.heap.size < (w2.alloc (.cells #[.int .i64 2, .int .i64 1] 37)).heap.size := by rw [World.size_alloc]; omega
  clear r2
  generalize w2.heap.size = g2 at *
  generalize w2.alloc (.cells #[.int .i64 2, .int .i64 1] 37) = W2 at *
  clear b2
  clear w2
  have F1' := Lib.hid (cells2_later F1.out S1.out a2)
  have T1' := Lib.hid (T1.out.below a2)
  have Y2 := Lib.hid (Y1.out.trans (a2.mono Y1.out.size))
  have F2 := Lib.hid f2
  have S2 := Lib.hid s2
  have S1' := Lib.hid (Nat.lt_of_lt_of_le S1.out a2.size)
  clear F1 T1 Y1 S1 a2 f2 s2
  go_wp2_with fail
  refine (K3.out W2 (HT.out.below Y2.out (Nat.le_refl _))).mono ?_
  rintro e w3 ⟨B3, c3, rfl, r3, b3⟩
  go_upto_region 4 with fail
  have f3 := cells2_new w3 (.int .i64 1) (.int .i64 3) 37
  have a3 := b3.alloc b3.size (.cells #[.int .i64 1, .int .i64 3] 37)
  clear r3
  generalize w3.heap.size = g3 at *
  generalize w3.alloc (.cells #[.int .i64 1, .int .i64 3] 37) = W3 at *
  clear b3
  clear w3
  obtain ⟨p0, p1⟩ := cells2_later F1'.out S1'.out a3
  obtain ⟨q0, q1⟩ := cells2_later F2.out S2.out a3
  obtain ⟨z0, z1⟩ := f3
  have Y3 := Lib.hid (Y2.out.trans (a3.mono Y2.out.size))
  rcases T1'.out.below a3 with ⟨h, _⟩ | ⟨g, cap, hv, _, hc⟩
  · cases h
  · injection hv with e1 _ _
    subst e1
    obtain ⟨m0, m1⟩ := hc 1 (4, 8) rfl
    clear hc F1' T1' F2 S2 S1' a3
    go_wp2_with fail
    refine (K4.out W3 (HT.out.below Y3.out (Nat.le_refl _))).mono ?_
    rintro e w4 ⟨rfl, b4⟩
    go_wp2
    go_ret
    exact ⟨by rw [vshown_4]; rfl, Y3.out.trans (b4.mono Y3.out.size)⟩

end Go.Proofs.YtojapomkmfbciaaDoor
