/-
  The reference's parser (chapter 18): a state that stands; the walks of digit, letter, literal, Class, skip.
-/
import Derived.Test.YtoniccokohjenaaRfB
import Derived.Test.YtoniccokohjenaaRegO
namespace Go.Proofs.Ytoniccokohjenaa
open Go.RowKit

/-- p is the state s of a parse of l, nothing went wrong -/
structure Lv (w : World) (L : LX) (l : List Int) (s : PS) (p : PX) : Prop where
  i : p.i = (s.pos : Int)
  bad : p.bad = 0
  deep : p.deep = (s.deep : Int)
  nn : p.nn = s.names.length
  pat : LRd w L l
  names : w.ownsRow 0 9 1 (.slice p.na p.nn p.nc) p.nn (strCells s.names)
  fin : Fin1 l s
section
variable {w w' : World} {L : LX} {l : List Int} {s : PS} {p : PX}
theorem Lv.below (h : Lv w L l s p) (hb : Below w.heap.size w w') : Lv w' L l s p :=
  ⟨h.i, h.bad, h.deep, h.nn, h.pat.below hb, rowns_below h.names hb, h.fin⟩
theorem Lv.off (h : Lv w L l s p) (ho : OffP w w') (hp : LRd w' L l) : Lv w' L l s p :=
  ⟨h.i, h.bad, h.deep, h.nn, hp, rowns_block h.names (fun k c z _ hh => ho k c _ z (by decide) hh), h.fin⟩
theorem KX.off {F : Nat → Prop} {t : Rx} {kv : Value} (h : KX F w t kv) (ho : OffP w w') : KX F w' t kv := h.kept fun q c z hq hh => ⟨ho q c _ z (by decide) hh, hq⟩
theorem Lv.on (h : Lv w L l s p) (k : Nat) (hk : s.pos + k ≤ l.length) : Lv w L l { s with pos := s.pos + k } { p with i := wrap64 (p.i + (k : Int)) } where
  i := by
    have := h.fin.len
    show wrap64 (p.i + (k : Int)) = ((s.pos + k : Nat) : Int)
    rw [h.i]; unfold wrap64; omega
  bad := h.bad
  deep := h.deep
  nn := h.nn
  pat := h.pat
  names := h.names
  fin := ⟨hk, Nat.le_trans h.fin.names (Nat.le_add_right _ _), h.fin.len, h.fin.deep, h.fin.pts⟩
theorem Lv.moved (h : Lv w L l s p) (j : Nat) (h1 : s.pos ≤ j) (hj : j ≤ l.length) : Lv w L l { s with pos := j } { p with i := (j : Int) } where
  i := rfl
  bad := h.bad
  deep := h.deep
  nn := h.nn
  pat := h.pat
  names := h.names
  fin := ⟨hj, Nat.le_trans h.fin.names h1, h.fin.len, h.fin.deep, h.fin.pts⟩
theorem Lv.told (h : Lv w L l s p) (x : Rx) (A : Option Addr) (n c : Nat) : Lv w L l s (toldX p x A n c) := by
  unfold toldX
  rw [if_pos h.bad]
  exact ⟨h.i, h.bad, h.deep, h.nn, h.pat, h.names, h.fin⟩
theorem toldX_ok (h : p.bad = 0) (x : Rx) (A : Option Addr) (n c : Nat) : toldX p x A n c = { p with x := x, xa := A, xn := n, xc := c } := if_pos h
theorem toldX_bad (h : p.bad ≠ 0) (x : Rx) (A : Option Addr) (n c : Nat) : toldX p x A n c = p := if_neg h
end
/-- something went wrong: at a, how -/
structure BadX (p : PX) (a n : Nat) : Prop where
  at' : p.at' = (a : Int)
  bad : p.bad = (n : Int)
  ne : n ≠ 0
theorem BadX.ne0 {p : PX} {a n : Nat} (h : BadX p a n) : p.bad ≠ 0 := by rw [h.bad]; have := h.ne; omega
theorem stopX_fail {α : Type} {L : LX} {l : List Int} {p : PX} {i : Nat} (hL : L.n = l.length) : ∃ a n, (failR l i : PR α) = .bad a n ∧ BadX (stopX L p (i : Int)) a n := by
  unfold failR stopX
  rcases Nat.lt_or_ge i l.length with h | h
  · rw [if_neg (by omega), if_neg (by omega)]; exact ⟨i, 2, rfl, rfl, rfl, by decide⟩
  · rw [if_pos h, if_pos (by omega)]; exact ⟨l.length, 5, rfl, by rw [← hL], rfl, by decide⟩

/-- the state and a number are handed back -/
theorem ret_p2 {fn : Func} {k j : Nat} (hr : fn.results = #[.cell k TP, .tmp j]) {a : Act} {W : World} {r : Nat} {L : LX} {p : PX} {z : Nat × Nat} {v : Value} (hh : W.heap[r]? = some (.cells (pCells L p).toArray TP z))
    (ht : a.tmps.getD k undef = .pointer (some ⟨r, 0, none⟩)) (hv : a.tmps.getD j undef = v) (hd : a.defers = []) {R : Ending → World → Prop} (hR : R (.returned (.tuple #[pAgg L p, v])) W) : bodyPost Try.prog fn R .ret a W := by
  have ht' : a.tmps[k]?.getD undef = .pointer (some ⟨r, 0, none⟩) := by simpa using ht
  have hv' : a.tmps[j]?.getD undef = v := by simpa using hv
  refine bodyPost_ret (v := .tuple #[pAgg L p, v]) ?_ hd hR
  obtain ⟨d, hd, hrow⟩ := underP
  have := run_loadVar_mid W r 0 TP (pCells L p) d (range_of hh) hd hrow (by rw [sizeP, p_len])
  simp [results, hr, ht', hv', asAddr, this, p_agg, Result.andThen]

/-- the sign at the place -/
theorem rfSignL (L : LX) (l : List Int) (s : PS) (p : PX) (n : Nat) (w : World) (h : Lv w L l s p) (hn : n ≤ 4000) :
    Calls Try.prog 55 #[pAgg L p, .int .i64 (n : Int)] w (RetE (.int .i64 (due l (s.pos + n))) fun w' => Below w.heap.size w w') :=
  rfSign L p l s.pos n w h.pat h.i h.fin.len (by have := h.fin.pos; have := h.fin.len; omega) hn

set_option maxHeartbeats 1000000 in
set_option maxRecDepth 100000 in
theorem rfDigit_any (c : Int) (w : World) :
    Calls Try.prog 112 #[.int .i64 c] w fun e w' => e = .returned (.bool (digI c)) ∧ w = w' := by
  go_enter Try.func112, Try.ntmps112
  go_wp2
  all_goals (go_ret; refine ⟨?_, rfl⟩; unfold digI; simp_all <;> (intros; omega))
set_option maxHeartbeats 1000000 in
set_option maxRecDepth 100000 in
theorem rfLetter_any (c : Int) (w : World) :
    Calls Try.prog 116 #[.int .i64 c] w fun e w' => e = .returned (.bool (ltrI c)) ∧ w = w' := by
  go_enter Try.func116, Try.ntmps116
  go_wp2
  all_goals (go_ret; refine ⟨?_, rfl⟩; unfold ltrI; simp_all <;> (intros; omega))
/-- what a sign behind a backslash stands for -/
def litI (c : Int) : Int := if c = 110 then 10 else if c = 116 then 9 else if c = 114 then 13 else if signI c then c else -1
set_option maxHeartbeats 1000000 in
set_option maxRecDepth 100000 in
theorem rfLiteral_any (c : Int) (w : World) :
    Calls Try.prog 111 #[.int .i64 c] w fun e w' => e = .returned (.int .i64 (litI c)) ∧ w = w' := by
  have KL := Lib.hid (fun W => RetE.of (rfLetter_any c W))
  have KD := Lib.hid (fun W => RetE.of (rfDigit_any c W))
  by_cases h : c = 110 ∨ c = 116 ∨ c = 114
  · rcases h with rfl | rfl | rfl <;>
    · go_enter Try.func111, Try.ntmps111
      go_wp2
      go_ret
      exact ⟨rfl, rfl⟩
  · have hl : litI c = if signI c then c else -1 := by unfold litI; rw [if_neg (by omega), if_neg (by omega), if_neg (by omega)]
    have z1 : (c == 110) = false := beq_false_of_ne (by omega)
    have z2 : (c == 116) = false := beq_false_of_ne (by omega)
    have z3 : (c == 114) = false := beq_false_of_ne (by omega)
    have hs : signI c = (decide (33 ≤ c) && decide (c ≤ 126) && !digI c && !ltrI c) := rfl
    rw [hl, hs]
    clear h hl hs
    generalize ltrI c = lt at *
    generalize digI c = dg at *
    by_cases h1 : 33 ≤ c
    · by_cases h2 : c ≤ 126
      · have y1 : decide (33 ≤ c) = true := decide_eq_true h1
        have y2 : decide (c ≤ 126) = true := decide_eq_true h2
        rw [y1, y2]
        clear h1 h2
        cases lt <;> cases dg <;>
        · go_enter Try.func111, Try.ntmps111
          go_wp2_with (first | (go_at_call 116; refine (KL.out _).mono ?_; rintro e wz ⟨rfl, rfl⟩) | (go_at_call 112; refine (KD.out _).mono ?_; rintro e wz ⟨rfl, rfl⟩))
          go_ret
          exact ⟨rfl, rfl⟩
      · have y1 : decide (33 ≤ c) = true := decide_eq_true h1
        have y2 : decide (c ≤ 126) = false := decide_eq_false h2
        rw [y1, y2]
        clear h1 h2
        go_enter Try.func111, Try.ntmps111
        go_wp2
        go_ret
        exact ⟨rfl, rfl⟩
    · have y1 : decide (33 ≤ c) = false := decide_eq_false h1
      rw [y1]
      clear h1
      go_enter Try.func111, Try.ntmps111
      go_wp2
      go_ret
      exact ⟨rfl, rfl⟩
set_option maxHeartbeats 1000000 in
set_option maxRecDepth 100000 in
theorem rfClass_any (c : Int) (w : World) :
    Calls Try.prog 110 #[.int .i64 c] w fun e w' => e = .returned (clsV (classI c)) ∧ Below w.heap.size w w' := by
  have hb : ∀ o, Below w.heap.size w (w.alloc o) := fun o => (Below.refl _ w).alloc (Nat.le_refl _) o
  by_cases h : c = 100 ∨ c = 119 ∨ c = 115 ∨ c = 68 ∨ c = 87 ∨ c = 83
  · rcases h with rfl | rfl | rfl | rfl | rfl | rfl <;>
    · go_enter Try.func110, Try.ntmps110
      go_wp2
      exact bodyPost_ret (by simp [results, Try.results110, go_sem]; rfl) rfl ⟨rfl, hb _⟩
  · have hn : classI c = none := by unfold classI; rw [if_neg (by omega), if_neg (by omega)]
    have z1 : (c == 100) = false := beq_false_of_ne (by omega)
    have z2 : (c == 119) = false := beq_false_of_ne (by omega)
    have z3 : (c == 115) = false := beq_false_of_ne (by omega)
    have z4 : (c == 68) = false := beq_false_of_ne (by omega)
    have z5 : (c == 87) = false := beq_false_of_ne (by omega)
    have z6 : (c == 83) = false := beq_false_of_ne (by omega)
    rw [hn]
    clear hn h
    go_enter Try.func110, Try.ntmps110
    go_wp2
    exact bodyPost_ret (by simp [results, Try.results110, go_sem]; rfl) rfl ⟨rfl, hb _⟩

end Go.Proofs.Ytoniccokohjenaa
