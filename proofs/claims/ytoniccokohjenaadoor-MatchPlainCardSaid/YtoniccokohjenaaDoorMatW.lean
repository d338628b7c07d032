/-
  The walk of the matcher's run (chapter 19).
-/
import Derived.Test.YtoniccokohjenaaDoorMatV
namespace Go.Proofs.YtoniccokohjenaaDoor
open Go.RowKit

/-- what a run asks of its steps -/
structure PrgOk (P : List Stp) (l : List Int) (G nw : Nat) : Prop where
  wf : WfP P
  pos : 0 < P.length
  few : P.length * (l.length + 1) ≤ 200000
  words : P.length * (l.length + 1) ≤ 64 * nw
  nws : nw ≤ 100000
  grp : ∀ s ∈ P, s.kind = 3 ∨ s.kind = 4 → 1 ≤ s.a ∧ s.a ≤ G
  gs : G ≤ 1000
  test : ∀ s ∈ P, s.kind = 0 → (s.x.kids = [] ∧ (s.x.kind = 1 ∨ s.x.kind = 2 ∨ s.x.kind = 4 ∨ s.x.kind = 5 ∨ s.x.kind = 10 ∨ s.x.kind = 11 ∨ s.x.kind = 12)) ∨ (s.x.kind = 3 ∧ (∀ k ∈ s.x.kids, LfS k) ∧ s.x.kids.length ≤ 1000000)
/-- marks that are put back are marks -/
def MkOk (G : Nat) (st : List Fr) : Prop := ∀ fr ∈ st, ∀ k v, fr = .mark k v → k < 2 * G
/-- what is where the stack is st -/
structure OutR (w0 w wr : World) (L : MtL) (m : Md) (l : List Int) (zs : List (Stp × Value)) (P : List Stp) (G nw : Nat) (R : Option Nat × List Int × (Nat → Bool)) (c : Option (Nat × Nat)) (sv : Value) (st : List Fr) (ws : List Nat) (M : List Int) : Prop where
  run : RunV w0 w wr L m l zs ws M sv st
  ok : StOk P l st
  mok : MkOk G st
  lw : ws.length = nw
  lm : M.length = 2 * G
  small : mu P l c st (wbit ws) ≤ 3 * (P.length * (l.length + 1)) + 4
  eq : runF m l P (mu P l c st (wbit ws)) c st M (wbit ws) = R

section
variable {w0 w W W' : World} {L : MtL} {m : Md} {l : List Int} {zs : List (Stp × Value)} {P : List Stp} {G nw : Nat} {R : Option Nat × List Int × (Nat → Bool)} {c : Option (Nat × Nat)} {sv : Value} {st : List Fr} {ws : List Nat} {M : List Int}
theorem OutR.call (h : OutR w0 w W L m l zs P G nw R c sv st ws M) (hb : Below W.heap.size W W') : OutR w0 w W' L m l zs P G nw R c sv st ws M := ⟨h.run.call hb, h.ok, h.mok, h.lw, h.lm, h.small, h.eq⟩
theorem OutR.alloc (h : OutR w0 w W L m l zs P G nw R c sv st ws M) (o : Obj) : OutR w0 w (W.alloc o) L m l zs P G nw R c sv st ws M := h.call ((Below.refl _ W).alloc (Nat.le_refl _) o)
theorem OutR.drewN (h : OutR w0 w W L m l zs P G nw R c sv st ws M) (n : Nat) : OutR w0 w (W.drewN n) L m l zs P G nw R c sv st ws M := h.call ⟨rfl, rfl, rfl, Nat.le_refl _, fun _ _ => rfl⟩
/-- a way is taken off the stack -/
theorem OutR.way {pc i : Nat} {A : Option Addr} {n cap : Nat} (h : OutR w0 w W L m l zs P G nw R none (.slice A n cap) (.way pc i :: st) ws M) :
    OutR w0 w W L m l zs P G nw R (some (pc, i)) (.slice A st.length cap) st ws M ∧ CurOk P l (some (pc, i)) ∧ mu P l (some (pc, i)) st (wbit ws) + 1 = mu P l none (.way pc i :: st) (wbit ws) := by
  have hk := h.ok (.way pc i) List.mem_cons_self pc i rfl
  have hm : mu P l (some (pc, i)) st (wbit ws) + 1 = mu P l none (.way pc i :: st) (wbit ws) := by unfold mu; simp; omega
  have he := h.eq
  rw [← hm, runF] at he
  exact ⟨⟨h.run.pop, h.ok.tail, fun f hf => h.mok f (List.mem_cons_of_mem _ hf), h.lw, h.lm, by have := h.small; omega, he⟩, .some hk.1 hk.2, hm⟩
/-- a step of the machine, told -/
theorem run_unf {pc i b : Nat} {s : Stp} (hs : P[pc]? = some s) (hb : b = bitAt l pc i) (ht : wbit ws b = false) (hl : b / 64 < ws.length) (f : Nat) (st : List Fr) (M : List Int) :
    runF m l P (f + 1) (some (pc, i)) st M (wbit ws) = (if s.kind = 0 then match testR m l s.x i with | none => runF m l P f none st M (wbit (wset ws b)) | some j => runF m l P f (some (pc + 1, j)) st M (wbit (wset ws b))
      else if s.kind = 1 then runF m l P f (some (s.a, i)) (.way s.b i :: st) M (wbit (wset ws b))
      else if s.kind = 2 then runF m l P f (some (s.a, i)) st M (wbit (wset ws b))
      else if s.kind = 5 then (some i, M, wbit (wset ws b))
      else runF m l P f (some (pc + 1, i)) (.mark (markAt s) (M.getD (markAt s) 0) :: st) (M.set (markAt s) i) (wbit (wset ws b))) := by
  rw [runF, ← hb, if_neg (by rw [ht]; decide), ← wbit_set hl]
  simp only
  rw [show P.getD pc sDone = s by rw [List.getD_eq_getElem?_getD, hs]; rfl]
  rfl
/-- blocks that are no frames stay, where a frame is laid upon the stack -/
theorem RunV.others (h : RunV w0 w W L m l zs ws M sv st) {f : Fr} (hg : (W.alloc (.cells (frCells f).toArray TFr)).grownBy W' sv.ownBlock) {k : Nat} {c : Array Value} {T : TypeId} {z : Nat × Nat} (hk : W.heap[k]? = some (.cells c T z)) (hT : T ≠ TFr) : W'.heap[k]? = some (.cells c T z) := by
  have ha : Below W.heap.size W (W.alloc (.cells (frCells f).toArray TFr)) := (Below.refl _ W).alloc (Nat.le_refl _) _
  have hl := (Array.getElem?_eq_some_iff.1 hk).1
  rw [hg.block k (Nat.lt_of_lt_of_le hl ha.size) (fun e => ?_)]
  · exact heap_call hk ha
  · obtain ⟨_, _, c', z', hc⟩ := rrow_kind h.own k e.symm
    rw [hk] at hc; injection hc with hc; injection hc with _ hc _; exact hT hc
theorem append_fr {ops : Array Oper} {rest : List Oper} {o : Oper} {a : Act} {Q : Exit → Act → World → Prop} {W : World} (hgd : o.guard = none) (s x : Operand)
    (ho : o.op = .call { callee := .builtin .append, args := #[s, x], argTypes := #[88, 88] })
    {B : Nat} {v : Value} {st : List Fr} (f : Fr) (hs : a.eval s = v) (hx : a.eval x = .slice (some ⟨W.heap.size, 0, none⟩) 1 1) (h : W.ownsRow B TFr 4 v st.length (frsCells st)) (hB : B ≤ W.heap.size) (hn : st.length ≤ 1000000)
    (hQ : ∀ v' w', w'.ownsRow B TFr 4 v' (st.length + 1) (frsCells st ++ frCells f) → (W.alloc (.cells (frCells f).toArray TFr)).grownBy w' v.ownBlock → wpList Tryd.prog ops Q rest (a.put o.dst v') w') :
    wpList Tryd.prog ops Q (o :: rest) a (W.alloc (.cells (frCells f).toArray TFr)) := by
  obtain ⟨i0, hi, hz0, hz1, hz2⟩ := info_parts infoFr
  refine wpList_append_own_at _ hgd s x _ ho B TFr i0 _ 4 32 Tryd.underlying88 hi hz0 hz1 hz2 rfl (by decide) v st.length (frsCells st) hs (rowns_below h ((Below.refl _ W).alloc (Nat.le_refl _) _)) ⟨W.heap.size, 0, none⟩ 1 1 (frCells f) hx (fr_len f) (news10 W _ _) (fr_one f) (by unfold maxLen; omega) (by omega) (by simp; omega) ?_
  intro v' w' hown hg _ _
  exact hQ v' w' hown hg

/-- what was tried leads nowhere -/
theorem OutR.seen {pc i : Nat} (h : OutR w0 w W L m l zs P G nw R (some (pc, i)) sv st ws M) (ht : wbit ws (bitAt l pc i) = true) :
    OutR w0 w W L m l zs P G nw R none sv st ws M ∧ mu P l none st (wbit ws) + 1 = mu P l (some (pc, i)) st (wbit ws) := by
  have hm : mu P l none st (wbit ws) + 1 = mu P l (some (pc, i)) st (wbit ws) := by unfold mu; simp
  have he := h.eq
  rw [← hm, runF, if_pos ht] at he
  exact ⟨⟨h.run, h.ok, h.mok, h.lw, h.lm, by have := h.small; omega, he⟩, hm⟩
/-- a mark is put back -/
theorem OutR.unmark {k : Nat} {v : Int} {A : Option Addr} {n cap : Nat} (h : OutR w0 w W L m l zs P G nw R none (.slice A n cap) (.mark k v :: st) ws M) (hP : PrgOk P l G nw) :
    OutR w0 w (W.setCell ⟨L.mb, k, none⟩ (.int .i64 v)) L m l zs P G nw R none (.slice A st.length cap) st ws (M.set k v) ∧ mu P l none st (wbit ws) < mu P l none (.mark k v :: st) (wbit ws) := by
  have hm : mu P l none st (wbit ws) + 2 = mu P l none (.mark k v :: st) (wbit ws) := by unfold mu; simp; omega
  have he := h.eq
  rw [← hm, runF] at he
  refine ⟨⟨h.run.pop.put_mark k v, h.ok.tail, fun f hf => h.mok f (List.mem_cons_of_mem _ hf), h.lw, by rw [List.length_set]; exact h.lm, by have := h.small; omega, ?_⟩, by omega⟩
  rw [← he]
  exact run_fuel hP.wf _ _ _ _ _ _ _ (Nat.le_refl _) .none h.ok.tail (Nat.le_refl _) (by omega)
/-- a step of the machine -/
theorem OutR.next {pc i : Nat} {c' : Option (Nat × Nat)} {st' : List Fr} {M' : List Int} {ws' : List Nat} {sv' : Value} (h : OutR w0 w W L m l zs P G nw R (some (pc, i)) sv st ws M) (hP : PrgOk P l G nw)
    (hs : ∀ f, runF m l P (f + 1) (some (pc, i)) st M (wbit ws) = runF m l P f c' st' M' (wbit ws')) (hr : RunV w0 w W' L m l zs ws' M' sv' st') (hc : CurOk P l c') (ho : StOk P l st') (hmk : MkOk G st') (hlw : ws'.length = nw) (hlm : M'.length = 2 * G)
    (hm : mu P l c' st' (wbit ws') < mu P l (some (pc, i)) st (wbit ws)) : OutR w0 w W' L m l zs P G nw R c' sv' st' ws' M' := by
  refine ⟨hr, ho, hmk, hlw, hlm, by have := h.small; omega, ?_⟩
  have he := h.eq
  obtain ⟨k, hk⟩ : ∃ k, mu P l (some (pc, i)) st (wbit ws) = k + 1 := ⟨mu P l (some (pc, i)) st (wbit ws) - 1, by omega⟩
  rw [hk, hs] at he
  rw [← he]
  exact run_fuel hP.wf _ _ _ _ _ _ _ (Nat.le_refl _) hc ho (Nat.le_refl _) (by omega)
theorem mu_bit {b : Nat} {pc i : Nat} {c' : Option (Nat × Nat)} {st' : List Fr} (hb : b < P.length * (l.length + 1)) (ht : wbit ws b = false) (hl : b / 64 < ws.length) (hs : st'.length ≤ st.length + 1) :
    mu P l c' st' (wbit (wset ws b)) < mu P l (some (pc, i)) st (wbit ws) := by
  have hu := untr_set (P.length * (l.length + 1)) b (wbit ws) hb ht
  rw [← wbit_set hl] at hu
  unfold mu
  simp only [Option.isSome_some, if_true]
  split <;> omega
/-- where the machine stands, as the program has it -/
def CurV (c : Option (Nat × Nat)) (v7 v8 : Value) : Prop := match c with
  | some (pc, i) => v7 = .int .i64 (pc : Int) ∧ v8 = .int .i64 (i : Int)
  | none => ∃ p : Int, v7 = .int .i64 p ∧ v8 = .int .i64 (-1)
end

set_option maxHeartbeats 4000000 in
set_option maxRecDepth 100000 in
theorem mtRun_any (w0 : World) (L : MtL) (m : Md) (l : List Int) (zs : List (Stp × Value)) (P : List Stp) (G nw i : Nat) (ws : List Nat) (M : List Int) (R : Option Nat × List Int × (Nat → Bool)) (w : World)
    (hz : zs.map Prod.fst = P) (hP : PrgOk P l G nw) (hi : i ≤ l.length) (h : MtW w0 w L m l zs ws M) (hw0 : w0.heap.size ≤ w.heap.size) (hlw : ws.length = nw) (hlm : M.length = 2 * G)
    (hR : runF m l P (mu P l none [.way 0 i] (wbit ws)) none [.way 0 i] M (wbit ws) = R) :
    Calls Tryd.prog 15 #[.pointer (some ⟨L.g, 0, none⟩), .int .i64 (i : Int)] w (RetE (.int .i64 (optI R.1)) fun w' => KeepR L.tb L.mb w w' ∧ ∃ ws' : List Nat, ws'.length = nw ∧ R.2.1.length = 2 * G ∧ wbit ws' = R.2.2 ∧ MtW w0 w' L m l zs ws' R.2.1) := by
  have hstart : OutR w0 w (w.alloc (.cells (frCells (.way 0 i)).toArray TFr)) L m l zs P G nw R none (.slice (some ⟨w.heap.size, 0, none⟩) 1 1) [.way 0 i] ws M := by
    have hb : Below w.heap.size w (w.alloc (.cells (frCells (.way 0 i)).toArray TFr)) := (Below.refl _ w).alloc (Nat.le_refl _) _
    refine ⟨⟨hw0, h.call hb, .call hb, ?_⟩, ?_, ?_, hlw, hlm, ?_, hR⟩
    · exact World.ownsRow_lit w (frCells (.way 0 i)).toArray 1 (Nat.le_refl _) (by decide) rfl
    · exact StOk.way hP.pos hi (fun f hf => by cases hf)
    · intro f hf k v e; obtain rfl := List.mem_singleton.1 hf; cases e
    · unfold mu; have := untr_le (P.length * (l.length + 1)) (wbit ws); simp; omega
  obtain ⟨W0, hW0⟩ : ∃ W0, W0 = w.alloc (.cells #[.int .i64 0, .int .i64 (i : Int), .int .i64 (-1), .int .i64 0] TFr) := ⟨_, rfl⟩
  have hstart' : OutR w0 w W0 L m l zs P G nw R none (.slice (some ⟨w.heap.size, 0, none⟩) 1 1) [.way 0 i] ws M := by rw [hW0]; exact hstart
  have HS := Lib.hid hstart'
  have HP := Lib.hid hP
  have HZ := Lib.hid hz
  have HLM := Lib.hid hlm
  clear hstart hstart' hP hz h hR hlw hlm hi hw0
  go_enter Tryd.func15, Tryd.ntmps15
  go_upto_region 2 with fail
  rw [← hW0]
  clear hW0
  go_wp2
  go_loopg [5] (mu P l none [.way 0 i] (wbit ws)) (fun kx v wr => ∃ (st : List Fr) (ws : List Nat) (M : List Int), mu P l none st (wbit ws) ≤ kx ∧ OutR w0 w wr L m l zs P G nw R none v st ws M)
  case atStart => exact ⟨[.way 0 i], ws, M, Nat.le_refl _, HS.out⟩
  case round =>
    clear HS HLM
    obtain ⟨st, ws, M, hmu, ho⟩ := hrel
    cases st with
    | nil =>
      obtain ⟨A, cap, rfl⟩ := ho.run.slice
      have hq := ho.eq
      rw [show mu P l none [] (wbit ws) = 3 * untr (P.length * (l.length + 1)) (wbit ws) + 0 + 1 from rfl, runF] at hq
      have HO := Lib.hid ho
      have HQ := Lib.hid hq
      clear ho hq hmu
      simp only [List.length_nil]
      go_wp2
      go_ret
      exact ⟨by rw [← HQ.out]; rfl, HO.out.run.keep, ws, HO.out.lw, by rw [← HQ.out]; exact HO.out.lm, by rw [← HQ.out], by rw [← HQ.out]; exact HO.out.run.mt⟩
    | cons fr st =>
      obtain ⟨q, cap, rfl, hcap, hr⟩ := ho.run.top
      obtain ⟨n, hn⟩ : ∃ n, n = st.length := ⟨_, rfl⟩
      obtain ⟨n1, hn1⟩ : ∃ n1, n1 = n + 1 := ⟨_, rfl⟩
      have e1 : (n1 : Int) - 1 = (n : Int) := by omega
      have hlow : 2 * n1 ≤ 3 * 200000 + 4 := by
        have h1 := ho.small
        have h2 := HP.out.few
        unfold mu at h1
        rw [List.length_cons, ← hn, ← hn1] at h1
        omega
      have z0 : decide (0 < n1) = true := decide_eq_true (by omega)
      have hw1 : wrap64 (n : Int) = (n : Int) ∧ IntKind.i64.wrap (n : Int) = (n : Int) := ⟨IntWalk.wrap64_in _ ⟨by omega, by omega⟩, IntWalk.i64_in _ (by omega)⟩
      have f0 : (0 : Int) ≤ (n : Int) := by omega
      have f1 : (n : Int) < (n1 : Int) := by omega
      have f2 : (n : Int) ≤ (cap : Int) := by omega
      rw [← hn] at hr hcap ho ⊢
      rw [← hn1] at hcap ho ⊢
      have HO := Lib.hid ho
      have HN := Lib.hid hn
      clear ho hn hn1
      cases fr with
      | way pc j =>
        have r0 := hr 0 _ rfl
        have r1 := hr 1 _ rfl
        have r2 := hr 2 _ rfl
        have r3 := hr 3 _ rfl
        rw [Nat.add_zero] at r0
        clear hr
        obtain ⟨W2, hW2⟩ : ∃ W2, W2 = wr.alloc (.cells #[.int .i64 (pc : Int), .int .i64 (j : Int), .int .i64 (-1), .int .i64 0] TFr) := ⟨_, rfl⟩
        have hh2 : W2.heap[wr.heap.size]? = some (.cells #[.int .i64 (pc : Int), .int .i64 (j : Int), .int .i64 (-1), .int .i64 0] TFr (0, 0)) := by rw [hW2]; exact Go.heap_alloc_new wr _
        have t0 : W2.cell? ⟨wr.heap.size, 0, none⟩ = some (.int .i64 (pc : Int)) := by rw [Lib.cell_of_heap hh2]; rfl
        have t1 : W2.cell? ⟨wr.heap.size, 1, none⟩ = some (.int .i64 (j : Int)) := by rw [Lib.cell_of_heap hh2]; rfl
        have t2 : W2.cell? ⟨wr.heap.size, 2, none⟩ = some (.int .i64 (-1)) := by rw [Lib.cell_of_heap hh2]; rfl
        have h2 := (HO.out.way)
        rw [← HN.out] at h2
        obtain ⟨h2, hc2, hm2⟩ := h2
        have H2 := Lib.hid (show OutR w0 w W2 L m l zs P G nw R (some (pc, j)) (.slice (some ⟨q, 0, none⟩) n cap) st ws M by rw [hW2]; exact h2.alloc _)
        have HC2 := Lib.hid hc2
        obtain ⟨mB, hmB⟩ : ∃ b, b = mu P l (some (pc, j)) st (wbit ws) := ⟨_, rfl⟩
        have hmB1 : mB + 1 ≤ gk := by omega
        have HMB := Lib.hid hmB
        clear hh2 h2 hc2 hm2 hmu hmB
        go_upto_region 4 with fail
        rw [← hW2]
        clear hW2 r0 r1 r2 r3
        go_upto_region 7 with fail
        go_quiet (fail)
        go_wp2
        obtain ⟨wo, rfl⟩ : ∃ wo : World, wo = wr := ⟨_, rfl⟩
        obtain ⟨og, rfl⟩ : ∃ og : Nat, og = gk := ⟨_, rfl⟩
        go_loopg [5, 7, 8] mB (fun kx v5 v7 v8 wr => ∃ (c : Option (Nat × Nat)) (st : List Fr) (ws : List Nat) (M : List Int), mu P l c st (wbit ws) ≤ kx ∧ mu P l c st (wbit ws) ≤ mB ∧ OutR w0 w wr L m l zs P G nw R c v5 st ws M ∧ CurOk P l c ∧ CurV c v7 v8)
        case atStart => exact ⟨some (pc, j), st, ws, M, by rw [HMB.out]; exact Nat.le_refl _, by rw [HMB.out]; exact Nat.le_refl _, H2.out.drewN _, HC2.out, rfl, rfl⟩
        case round =>
          clear H2 HC2 t0 t1 t2 HMB HO HN e1 hlow z0 hw1 f0 f1 f2 hcap
          obtain ⟨c, st, ws, M, hmu, hmu2, ho, hc, hv⟩ := hrel
          cases c with
          | none =>
            obtain ⟨p, rfl, rfl⟩ := hv
            have HO := Lib.hid ho
            clear ho
            go_wp2_with fail
            go_roundg (mu P l none st (wbit ws))
            case measure => omega
            case rel => exact ⟨st, ws, M, Nat.le_refl _, HO.out⟩
          | some c =>
            obtain ⟨pc, i⟩ := c
            obtain ⟨rfl, rfl⟩ := hv
            obtain ⟨hpc, hi⟩ := hc pc i rfl
            obtain ⟨A5, cap5, rfl⟩ := ho.run.slice
            have hi' := hi
            have hb := bit_lt hpc hi
            have hfew := HP.out.few
            have hwds := HP.out.words
            have hnws := HP.out.nws
            obtain ⟨b, hbb⟩ : ∃ b, b = bitAt l pc i := ⟨_, rfl⟩
            have hbs : b = pc * (l.length + 1) + i := hbb
            rw [← hbb] at hb
            obtain ⟨q6, hq6⟩ : ∃ q, q = b / 64 := ⟨_, rfl⟩
            obtain ⟨r6, hr6⟩ : ∃ q, q = b % 64 := ⟨_, rfl⟩
            have hq7 : q6 < ws.length := by have := ho.lw; omega
            have cw := ho.run.mt.word hq7
            have cl := ho.run.mt.cl
            have ct := ho.run.mt.ct
            rw [ho.lw] at ct
            have hv64 := ho.run.mt.wds.get q6
            have hand : (bits .and .u64 ((ws.getD q6 0 : Nat) / 2 ^ min r6 64) 1 == 1) = (ws.getD q6 0).testBit r6 := wbit_and (ws.getD q6 0) r6 hv64 (by omega)
            have hor : bits .or .u64 ((ws.getD q6 0 : Nat) : Int) (IntKind.u64.wrap (2 ^ min r6 64)) = ((ws.getD q6 0 ||| 2 ^ r6 : Nat) : Int) := by
              have := wbit_or (ws.getD q6 0) r6 hv64 (by omega)
              rw [Int.one_mul] at this; exact this
            have hwb : wbit ws b = (ws.getD q6 0).testBit r6 := by unfold wbit; rw [hq6, hr6]
            rw [← hwb] at hand
            obtain ⟨N, hN⟩ : ∃ N, N = l.length := ⟨_, rfl⟩
            rw [← hN] at cl hbs hi hfew
            obtain ⟨pN, hpN⟩ : ∃ k, k = pc * (N + 1) := ⟨_, rfl⟩
            obtain ⟨N1, hN1⟩ : ∃ k, k = N + 1 := ⟨_, rfl⟩
            rw [← hpN] at hbs
            obtain ⟨v, hv⟩ : ∃ v, v = ws.getD q6 0 := ⟨_, rfl⟩
            rw [← hv] at cw hand hor hv64
            obtain ⟨nv, hnv⟩ : ∃ nv : Nat, nv = v ||| 2 ^ r6 := ⟨_, rfl⟩
            rw [← hnv] at hor
            have HNV := Lib.hid hnv
            clear hnv
            have hPl : pc * (N + 1) ≤ P.length * (N + 1) := Nat.mul_le_mul_right _ (by omega)
            have hNl : N + 1 ≤ P.length * (N + 1) := Nat.le_mul_of_pos_left _ (by omega)
            have a1 : (N : Int) + 1 = (N1 : Int) := by omega
            have a2 : (pc : Int) * (N1 : Int) = (pN : Int) := by rw [hpN, hN1]; push_cast; rfl
            have a3 : (pN : Int) + (i : Int) = (b : Int) := by omega
            have a4 : ((b : Int)).tdiv 64 = (q6 : Int) := by rw [hq6]; rfl
            have a5 : ((b : Int)).tmod 64 = (r6 : Int) := by rw [hr6]; rfl
            have b1 : (0 : Int) ≤ (q6 : Int) := by omega
            have b2 : (q6 : Int) < (nw : Int) := by have := ho.lw; omega
            have b3 : (0 : Int) ≤ (r6 : Int) := by omega
            have zi : decide ((0 : Int) ≤ (i : Int)) = true := decide_eq_true (by omega)
            have w1 : IntKind.i64.wrap (N1 : Int) = (N1 : Int) := IntWalk.i64_in _ (by omega)
            have w2 : IntKind.i64.wrap (pN : Int) = (pN : Int) := IntWalk.i64_in _ (by omega)
            have w3 : IntKind.i64.wrap (b : Int) = (b : Int) := IntWalk.i64_in _ (by omega)
            have w4 : IntKind.i64.wrap (q6 : Int) = (q6 : Int) := IntWalk.i64_in _ (by omega)
            have w5 : IntKind.i64.wrap (r6 : Int) = (r6 : Int) := IntWalk.i64_in _ (by omega)
            have HO := Lib.hid ho
            have HHB := Lib.hid hbb
            have HV := Lib.hid hv
            have HQ6 := Lib.hid hq6
            have hbN := hb
            have hlow : st.length ≤ 1000000 := by
              have h1 := ho.small
              have h2 := HP.out.few
              unfold mu at h1
              omega
            have hp2 : pc < 200000 := by have : P.length ≤ P.length * (N + 1) := Nat.le_mul_of_pos_right _ (by omega); omega
            have HR6 := Lib.hid hr6
            clear ho hc hb hfew hwds hnws hbb hbs hq6 hr6 hwb hN hpN hN1 hPl hNl hv
            cases htt : wbit ws b with
            | true =>
              rw [htt] at hand
              have hs := HO.out.seen (by rw [← HHB.out]; exact htt)
              have HSN := Lib.hid hs.1
              have hm1 := hs.2
              clear hs htt
              go_wp2_with fail
              go_roundg (mu P l none st (wbit ws))
              case measure => omega
              case rel => exact ⟨st, ws, M, Nat.le_refl _, HSN.out⟩
            | false =>
              rw [htt] at hand
              have HTT := Lib.hid htt
              have hq64 : b / 64 < ws.length := by rw [← HQ6.out]; exact hq7
              have fz := HO.out.run.mt.frozen_t q6
              clear htt
              go_upto_region 11 with fail
              go_still_tail 13, (by kernel_rfl)
              go_upto_region 12 with fail
              have h3 : RunV w0 w (wr.setCell ⟨L.tb, q6, none⟩ (.int .u64 (nv : Int))).drew L m l zs (wset ws b) M (.slice A5 st.length cap5) st := by
                rw [HNV.out, HV.out, HQ6.out, HR6.out]; exact (HO.out.run.put_word b).drew
              generalize (wr.setCell ⟨L.tb, q6, none⟩ (.int .u64 (nv : Int))).drew = W3 at *
              clear a1 a2 a3 a4 a5 b1 b2 b3 w1 w2 w3 w4 w5 hand hor cw cl ct fz hv64 HNV HV HR6 zi
              have hzl : zs.length = P.length := by rw [← HZ.out, List.length_map]
              obtain ⟨z, hz⟩ : ∃ z, zs[pc]? = some z := ⟨_, List.getElem?_eq_getElem (by rw [hzl]; exact hpc)⟩
              have hps : P[pc]? = some z.1 := by rw [← HZ.out, List.getElem?_map, hz]; rfl
              obtain ⟨XA, Xc, hz2, hxT⟩ := h3.mt.form z (List.mem_of_getElem? hz)
              have hst := h3.mt.step hz
              have cs := h3.mt.cs
              rw [hzl] at cs
              have b1 : (0 : Int) ≤ (pc : Int) := by omega
              have b2 : (pc : Int) < (P.length : Int) := by omega
              obtain ⟨⟨sk, sx, sa, sb⟩, kv⟩ := z
              simp only at hz2 hps hxT
              subst hz2
              have hk5 := HP.out.wf.kind pc _ hps
              simp only at hk5
              have e0 := hst 0 _ rfl
              have e1 := hst 1 _ rfl
              have e2 := hst 2 _ rfl
              have e3 := hst 3 _ rfl
              have e4 := hst 4 _ rfl
              have e5 := hst 5 _ rfl
              have e6 := hst 6 _ rfl
              have e7 := hst 7 _ rfl
              have e8 := hst 8 _ rfl
              have e9 := hst 9 _ rfl
              have e10 := hst 10 _ rfl
              have e11 := hst 11 _ rfl
              have e12 := hst 12 _ rfl
              rw [Nat.add_zero] at e0
              simp only at e0 e1 e2 e3 e4 e5 e6 e7 e8 e9 e10 e11 e12
              obtain ⟨W4, hW4⟩ : ∃ W4, W4 = W3.alloc (.cells #[.int .i64 (sk : Int), .int .i64 (sx.kind : Int), .int .i64 sx.rune, .int .i64 sx.to, .slice XA sx.kids.length Xc, .int .i64 sx.min, .int .i64 sx.max, .bool sx.lazy, .bool sx.not, .int .i64 (sx.group : Int), .string ⟨sx.name.toArray⟩, .int .i64 (sa : Int), .int .i64 (sb : Int)] TS) := ⟨_, rfl⟩
              have hh4 : W4.heap[W3.heap.size]? = some (.cells #[.int .i64 (sk : Int), .int .i64 (sx.kind : Int), .int .i64 sx.rune, .int .i64 sx.to, .slice XA sx.kids.length Xc, .int .i64 sx.min, .int .i64 sx.max, .bool sx.lazy, .bool sx.not, .int .i64 (sx.group : Int), .string ⟨sx.name.toArray⟩, .int .i64 (sa : Int), .int .i64 (sb : Int)] TS (0, 0)) := by rw [hW4]; exact Go.heap_alloc_new W3 _
              have h4 : RunV w0 w W4 L m l zs (wset ws b) M (.slice A5 st.length cap5) st := by rw [hW4]; exact h3.call ((Below.refl _ W3).alloc (Nat.le_refl _) _)
              have f0 : W4.cell? ⟨W3.heap.size, 0, none⟩ = some (.int .i64 (sk : Int)) := by rw [Lib.cell_of_heap hh4]; rfl
              have HH4 := Lib.hid hh4
              have H4 := Lib.hid h4
              have HPS := Lib.hid hps
              have HXT := Lib.hid hxT
              clear hst hz hh4 h4 h3 hps hxT hzl
              go_upto_region 13 with fail
              rw [← hW4]
              clear hW4 e0 e1 e2 e3 e4 e5 e6 e7 e8 e9 e10 e11 e12 b1 b2 cs
              generalize W3.heap.size = B at *
              have hks : sk = 0 ∨ sk = 1 ∨ sk = 2 ∨ sk = 5 ∨ sk = 3 ∨ sk = 4 := by omega
              clear hk5
              rcases hks with rfl | rfl | rfl | rfl | rfl | rfl
              · -- a test
                have ht := HP.out.test _ (List.mem_of_getElem? HPS.out) rfl
                have ktest := mtTest_any L.g m l _ _ _ sx XA Xc i W4 H4.out.mt.rd hi' (KX.below HXT.out H4.out.mt.below) ht
                have f1 : W4.cell? ⟨B, 1, none⟩ = some (.int .i64 (sx.kind : Int)) := by rw [Lib.cell_of_heap HH4.out]; rfl
                have f2 : W4.cell? ⟨B, 2, none⟩ = some (.int .i64 sx.rune) := by rw [Lib.cell_of_heap HH4.out]; rfl
                have f3 : W4.cell? ⟨B, 3, none⟩ = some (.int .i64 sx.to) := by rw [Lib.cell_of_heap HH4.out]; rfl
                have f4 : W4.cell? ⟨B, 4, none⟩ = some (.slice XA sx.kids.length Xc) := by rw [Lib.cell_of_heap HH4.out]; rfl
                have f5 : W4.cell? ⟨B, 5, none⟩ = some (.int .i64 sx.min) := by rw [Lib.cell_of_heap HH4.out]; rfl
                have f6 : W4.cell? ⟨B, 6, none⟩ = some (.int .i64 sx.max) := by rw [Lib.cell_of_heap HH4.out]; rfl
                have f7 : W4.cell? ⟨B, 7, none⟩ = some (.bool sx.lazy) := by rw [Lib.cell_of_heap HH4.out]; rfl
                have f8 : W4.cell? ⟨B, 8, none⟩ = some (.bool sx.not) := by rw [Lib.cell_of_heap HH4.out]; rfl
                have f9 : W4.cell? ⟨B, 9, none⟩ = some (.int .i64 (sx.group : Int)) := by rw [Lib.cell_of_heap HH4.out]; rfl
                have f10 : W4.cell? ⟨B, 10, none⟩ = some (.string ⟨sx.name.toArray⟩) := by rw [Lib.cell_of_heap HH4.out]; rfl
                have hun := fun f => run_unf (m := m) HPS.out HHB.out HTT.out hq64 f st M
                simp only [if_true] at hun
                have hnx := HP.out.wf.next pc _ HPS.out (.inl rfl)
                simp only [rxAgg] at ktest
                cases htr : testR m l sx i with
                | none =>
                  rw [htr] at ktest
                  simp only [htr] at hun
                  simp only [optI] at ktest
                  have HUN := Lib.hid hun
                  have KTS := Lib.hid ktest
                  have hmn : mu P l none st (wbit (wset ws b)) < mu P l (some (pc, i)) st (wbit ws) := mu_bit hbN HTT.out hq64 (by omega)
                  clear hun ktest ht htr
                  go_wp2_with (go_at_call 28; with_reducible refine (KTS.out).mono ?_)
                  rintro e w5 ⟨rfl, hb5⟩
                  have HN := Lib.hid (HO.out.next HP.out HUN.out (H4.out.call hb5) .none HO.out.ok HO.out.mok (by rw [wset_len]; exact HO.out.lw) HO.out.lm hmn)
                  clear hb5 f0 f1 f2 f3 f4 f5 f6 f7 f8 f9 f10
                  go_wp2_with fail
                  go_roundg (mu P l none st (wbit (wset ws b)))
                  case measure => omega
                  case rel => exact ⟨none, st, wset ws b, M, Nat.le_refl _, by omega, HN.out, .none, (pc : Int) + 1, rfl, rfl⟩
                | some j =>
                  rw [htr] at ktest
                  simp only [htr] at hun
                  simp only [optI] at ktest
                  have HUN := Lib.hid hun
                  have KTS := Lib.hid ktest
                  have HCK := Lib.hid (CurOk.some hnx (testR_le hi' htr))
                  have hmn : mu P l (some (pc + 1, j)) st (wbit (wset ws b)) < mu P l (some (pc, i)) st (wbit ws) := mu_bit hbN HTT.out hq64 (by omega)
                  clear hun ktest ht htr
                  go_wp2_with (go_at_call 28; with_reducible refine (KTS.out).mono ?_)
                  rintro e w5 ⟨rfl, hb5⟩
                  have HN := Lib.hid (HO.out.next HP.out HUN.out (H4.out.call hb5) HCK.out HO.out.ok HO.out.mok (by rw [wset_len]; exact HO.out.lw) HO.out.lm hmn)
                  clear hb5 f0 f1 f2 f3 f4 f5 f6 f7 f8 f9 f10
                  go_wp2_with fail
                  go_roundg (mu P l (some (pc + 1, j)) st (wbit (wset ws b)))
                  case measure => omega
                  case rel => exact ⟨some (pc + 1, j), st, wset ws b, M, Nat.le_refl _, by omega, HN.out, HCK.out, by go_num, rfl⟩
              · -- a fork
                have f11 : W4.cell? ⟨B, 11, none⟩ = some (.int .i64 (sa : Int)) := by rw [Lib.cell_of_heap HH4.out]; rfl
                have f12 : W4.cell? ⟨B, 12, none⟩ = some (.int .i64 (sb : Int)) := by rw [Lib.cell_of_heap HH4.out]; rfl
                have hfk := HP.out.wf.fork pc _ HPS.out rfl
                have HUN := Lib.hid (show ∀ f, runF m l P (f + 1) (some (pc, i)) st M (wbit ws) = runF m l P f (some (sa, i)) (.way sb i :: st) M (wbit (wset ws b)) from fun f => by rw [run_unf HPS.out HHB.out HTT.out hq64]; rfl)
                have hmn : mu P l (some (sa, i)) (.way sb i :: st) (wbit (wset ws b)) < mu P l (some (pc, i)) st (wbit ws) := mu_bit hbN HTT.out hq64 (by simp)
                have HCK := Lib.hid (CurOk.some hfk.1 hi')
                have hok := HO.out.ok.way hfk.2 hi'
                have HOK := Lib.hid hok
                have HMK := Lib.hid (show MkOk G (.way sb i :: st) from fun f hf k v e => by
                  rcases List.mem_cons.1 hf with rfl | hf
                  · cases e
                  · exact HO.out.mok f hf k v e)
                have hsz : w.heap.size ≤ W4.heap.size := H4.out.keep.1
                clear hfk hok
                go_wp2_with (at_builtin; refine append_fr rfl _ _ rfl (.way sb i) rfl rfl H4.out.own hsz hlow ?_)
                intro v6 w6 ho6 hg6
                have h6 := H4.out.push hg6 ho6
                have hh6 := H4.out.others hg6 HH4.out (by decide)
                have f11' : w6.cell? ⟨B, 11, none⟩ = some (.int .i64 (sa : Int)) := by rw [Lib.cell_of_heap hh6]; rfl
                have HN := Lib.hid (HO.out.next HP.out HUN.out h6 HCK.out HOK.out HMK.out (by rw [wset_len]; exact HO.out.lw) HO.out.lm hmn)
                clear ho6 hg6 h6 hh6 f0 f11 f12
                go_wp2_with fail
                go_roundg (mu P l (some (sa, i)) (.way sb i :: st) (wbit (wset ws b)))
                case measure => omega
                case rel => exact ⟨some (sa, i), .way sb i :: st, wset ws b, M, Nat.le_refl _, by omega, HN.out, HCK.out, rfl, rfl⟩
              · -- a jump
                have f11 : W4.cell? ⟨B, 11, none⟩ = some (.int .i64 (sa : Int)) := by rw [Lib.cell_of_heap HH4.out]; rfl
                have hj := HP.out.wf.jump pc _ HPS.out rfl
                have HUN := Lib.hid (show ∀ f, runF m l P (f + 1) (some (pc, i)) st M (wbit ws) = runF m l P f (some (sa, i)) st M (wbit (wset ws b)) from fun f => by rw [run_unf HPS.out HHB.out HTT.out hq64]; rfl)
                have hmn : mu P l (some (sa, i)) st (wbit (wset ws b)) < mu P l (some (pc, i)) st (wbit ws) := mu_bit hbN HTT.out hq64 (by omega)
                have HCK := Lib.hid (CurOk.some hj hi')
                have HN := Lib.hid (HO.out.next HP.out HUN.out H4.out HCK.out HO.out.ok HO.out.mok (by rw [wset_len]; exact HO.out.lw) HO.out.lm hmn)
                clear hj
                go_wp2_with fail
                go_roundg (mu P l (some (sa, i)) st (wbit (wset ws b)))
                case measure => omega
                case rel => exact ⟨some (sa, i), st, wset ws b, M, Nat.le_refl _, by omega, HN.out, HCK.out, rfl, rfl⟩
              · -- the end
                have he := HO.out.eq
                obtain ⟨k, hk⟩ : ∃ k, mu P l (some (pc, i)) st (wbit ws) = k + 1 := ⟨mu P l (some (pc, i)) st (wbit ws) - 1, by unfold mu; simp⟩
                rw [hk, run_unf HPS.out HHB.out HTT.out hq64] at he
                have HE := Lib.hid (show (some i, M, wbit (wset ws b)) = R from he)
                clear he hk
                go_wp2
                go_ret
                exact ⟨by rw [← HE.out]; rfl, H4.out.keep, wset ws b, by rw [wset_len]; exact HO.out.lw, by rw [← HE.out]; exact HO.out.lm, by rw [← HE.out], by rw [← HE.out]; exact H4.out.mt⟩
              · -- a group's beginning
                have hg := HP.out.grp _ (List.mem_of_getElem? HPS.out) (.inl rfl)
                have hgs := HP.out.gs
                simp only at hg
                have f11 : W4.cell? ⟨B, 11, none⟩ = some (.int .i64 (sa : Int)) := by rw [Lib.cell_of_heap HH4.out]; rfl
                obtain ⟨a0, ha0⟩ : ∃ a, a = sa - 1 := ⟨_, rfl⟩
                obtain ⟨k, hk⟩ : ∃ a, a = 2 * a0 := ⟨_, rfl⟩
                have hmk : markAt ⟨3, sx, sa, sb⟩ = k := by unfold markAt; simp; omega
                obtain ⟨mv, hmv⟩ : ∃ v, v = M.getD k 0 := ⟨_, rfl⟩
                have hlm := HO.out.lm
                have cm := H4.out.mt.cm
                have ck := H4.out.mt.mark (k := k) (by omega)
                rw [← hmv] at ck
                obtain ⟨G2, hG2⟩ : ∃ x, x = M.length := ⟨_, rfl⟩
                rw [← hG2] at cm
                have i1 : (sa : Int) - 1 = (a0 : Int) := by omega
                have i2 : 2 * (a0 : Int) = (k : Int) := by omega
                have x1 : IntKind.i64.wrap (a0 : Int) = (a0 : Int) := IntWalk.i64_in _ (by omega)
                have x3 : IntKind.i64.wrap (k : Int) = (k : Int) := IntWalk.i64_in _ (by omega)
                have y1 : (0 : Int) ≤ (k : Int) := by omega
                have y2 : (k : Int) < (G2 : Int) := by omega
                have HUN := Lib.hid (show ∀ f, runF m l P (f + 1) (some (pc, i)) st M (wbit ws) = runF m l P f (some (pc + 1, i)) (.mark k mv :: st) (M.set k i) (wbit (wset ws b)) from fun f => by
                  rw [run_unf HPS.out HHB.out HTT.out hq64]
                  show runF m l P f (some (pc + 1, i)) (.mark (markAt ⟨3, sx, sa, sb⟩) (M.getD (markAt ⟨3, sx, sa, sb⟩) 0) :: st) (M.set (markAt ⟨3, sx, sa, sb⟩) i) _ = _
                  rw [hmk, ← hmv])
                have hnx := HP.out.wf.next pc _ HPS.out (.inr (.inl rfl))
                have hmn : mu P l (some (pc + 1, i)) (.mark k mv :: st) (wbit (wset ws b)) < mu P l (some (pc, i)) st (wbit ws) := mu_bit hbN HTT.out hq64 (by simp)
                have HCK := Lib.hid (CurOk.some hnx hi')
                have HMK := Lib.hid (show MkOk G (.mark k mv :: st) from fun f hf k' v e => by
                  rcases List.mem_cons.1 hf with rfl | hf
                  · injection e with e1 e2; omega
                  · exact HO.out.mok f hf k' v e)
                have hsz : w.heap.size ≤ W4.heap.size := H4.out.keep.1
                have HG2 := Lib.hid hG2
                clear hg hgs hnx hmk hmv hk ha0 hlm hG2
                go_wp2_with (at_builtin; refine append_fr rfl _ _ rfl (.mark k mv) rfl rfl H4.out.own hsz hlow ?_)
                intro v6 w6 ho6 hg6
                have h6 := H4.out.push hg6 ho6
                have cm6 := h6.mt.cm
                rw [← HG2.out] at cm6
                have fz6 := h6.mt.frozen_m k
                have ck6 := h6.mt.mark (k := k) (by rw [← HG2.out]; omega)
                have HN := Lib.hid (HO.out.next HP.out HUN.out (h6.put_mark k (i : Int)) HCK.out HO.out.ok.mark HMK.out (by rw [wset_len]; exact HO.out.lw) (by rw [List.length_set]; exact HO.out.lm) hmn)
                clear ho6 hg6 h6 f0 f11 cm ck
                go_wp2_with fail
                go_roundg (mu P l (some (pc + 1, i)) (.mark k mv :: st) (wbit (wset ws b)))
                case measure => omega
                case rel => exact ⟨some (pc + 1, i), .mark k mv :: st, wset ws b, M.set k i, Nat.le_refl _, by omega, HN.out, HCK.out, by go_num, rfl⟩
              · -- a group's end
                have hg := HP.out.grp _ (List.mem_of_getElem? HPS.out) (.inr rfl)
                have hgs := HP.out.gs
                simp only at hg
                have f11 : W4.cell? ⟨B, 11, none⟩ = some (.int .i64 (sa : Int)) := by rw [Lib.cell_of_heap HH4.out]; rfl
                obtain ⟨a0, ha0⟩ : ∃ a, a = sa - 1 := ⟨_, rfl⟩
                obtain ⟨k0, hk0⟩ : ∃ a, a = 2 * a0 := ⟨_, rfl⟩
                obtain ⟨k, hk⟩ : ∃ a, a = k0 + 1 := ⟨_, rfl⟩
                have hmk : markAt ⟨4, sx, sa, sb⟩ = k := by unfold markAt; simp; omega
                obtain ⟨mv, hmv⟩ : ∃ v, v = M.getD k 0 := ⟨_, rfl⟩
                have hlm := HO.out.lm
                have cm := H4.out.mt.cm
                have ck := H4.out.mt.mark (k := k) (by omega)
                rw [← hmv] at ck
                obtain ⟨G2, hG2⟩ : ∃ x, x = M.length := ⟨_, rfl⟩
                rw [← hG2] at cm
                have i1 : (sa : Int) - 1 = (a0 : Int) := by omega
                have i2 : 2 * (a0 : Int) = (k0 : Int) := by omega
                have i3 : (k0 : Int) + 1 = (k : Int) := by omega
                have x1 : IntKind.i64.wrap (a0 : Int) = (a0 : Int) := IntWalk.i64_in _ (by omega)
                have x2 : IntKind.i64.wrap (k0 : Int) = (k0 : Int) := IntWalk.i64_in _ (by omega)
                have x3 : IntKind.i64.wrap (k : Int) = (k : Int) := IntWalk.i64_in _ (by omega)
                have y1 : (0 : Int) ≤ (k : Int) := by omega
                have y2 : (k : Int) < (G2 : Int) := by omega
                have HUN := Lib.hid (show ∀ f, runF m l P (f + 1) (some (pc, i)) st M (wbit ws) = runF m l P f (some (pc + 1, i)) (.mark k mv :: st) (M.set k i) (wbit (wset ws b)) from fun f => by
                  rw [run_unf HPS.out HHB.out HTT.out hq64]
                  show runF m l P f (some (pc + 1, i)) (.mark (markAt ⟨4, sx, sa, sb⟩) (M.getD (markAt ⟨4, sx, sa, sb⟩) 0) :: st) (M.set (markAt ⟨4, sx, sa, sb⟩) i) _ = _
                  rw [hmk, ← hmv])
                have hnx := HP.out.wf.next pc _ HPS.out (.inr (.inr rfl))
                have hmn : mu P l (some (pc + 1, i)) (.mark k mv :: st) (wbit (wset ws b)) < mu P l (some (pc, i)) st (wbit ws) := mu_bit hbN HTT.out hq64 (by simp)
                have HCK := Lib.hid (CurOk.some hnx hi')
                have HMK := Lib.hid (show MkOk G (.mark k mv :: st) from fun f hf k' v e => by
                  rcases List.mem_cons.1 hf with rfl | hf
                  · injection e with e1 e2; omega
                  · exact HO.out.mok f hf k' v e)
                have hsz : w.heap.size ≤ W4.heap.size := H4.out.keep.1
                have HG2 := Lib.hid hG2
                clear hg hgs hnx hmk hmv hk0 hk ha0 hlm hG2
                go_wp2_with (at_builtin; refine append_fr rfl _ _ rfl (.mark k mv) rfl rfl H4.out.own hsz hlow ?_)
                intro v6 w6 ho6 hg6
                have h6 := H4.out.push hg6 ho6
                have cm6 := h6.mt.cm
                rw [← HG2.out] at cm6
                have fz6 := h6.mt.frozen_m k
                have ck6 := h6.mt.mark (k := k) (by rw [← HG2.out]; omega)
                have HN := Lib.hid (HO.out.next HP.out HUN.out (h6.put_mark k (i : Int)) HCK.out HO.out.ok.mark HMK.out (by rw [wset_len]; exact HO.out.lw) (by rw [List.length_set]; exact HO.out.lm) hmn)
                clear ho6 hg6 h6 f0 f11 cm ck
                go_wp2_with fail
                go_roundg (mu P l (some (pc + 1, i)) (.mark k mv :: st) (wbit (wset ws b)))
                case measure => omega
                case rel => exact ⟨some (pc + 1, i), .mark k mv :: st, wset ws b, M.set k i, Nat.le_refl _, by omega, HN.out, HCK.out, by go_num, rfl⟩
      | mark k v =>
        have r0 := hr 0 _ rfl
        have r1 := hr 1 _ rfl
        have r2 := hr 2 _ rfl
        have r3 := hr 3 _ rfl
        rw [Nat.add_zero] at r0
        clear hr
        obtain ⟨W2, hW2⟩ : ∃ W2, W2 = wr.alloc (.cells #[.int .i64 0, .int .i64 0, .int .i64 (k : Int), .int .i64 v] TFr) := ⟨_, rfl⟩
        have hh2 : W2.heap[wr.heap.size]? = some (.cells #[.int .i64 0, .int .i64 0, .int .i64 (k : Int), .int .i64 v] TFr (0, 0)) := by rw [hW2]; exact Go.heap_alloc_new wr _
        have t2 : W2.cell? ⟨wr.heap.size, 2, none⟩ = some (.int .i64 (k : Int)) := by rw [Lib.cell_of_heap hh2]; rfl
        have t3 : W2.cell? ⟨wr.heap.size, 3, none⟩ = some (.int .i64 v) := by rw [Lib.cell_of_heap hh2]; rfl
        have h2 : OutR w0 w W2 L m l zs P G nw R none (.slice (some ⟨q, 0, none⟩) n1 cap) (.mark k v :: st) ws M := by rw [hW2]; exact HO.out.alloc _
        have hk := HO.out.mok _ List.mem_cons_self k v rfl
        have hgs := HP.out.gs
        have cm := h2.run.mt.cm
        have fz := h2.run.mt.frozen_m k
        have hlm := h2.lm
        have ck := h2.run.mt.mark (k := k) (by omega)
        obtain ⟨mo, hmo⟩ : ∃ v, v = M.getD k 0 := ⟨_, rfl⟩
        rw [← hmo] at ck
        obtain ⟨G2, hG2⟩ : ∃ x, x = M.length := ⟨_, rfl⟩
        rw [← hG2] at cm
        have y0 : (0 : Int) ≤ (k : Int) := by omega
        have y2 : (k : Int) < (G2 : Int) := by omega
        obtain ⟨hnx, hmx⟩ := h2.unmark HP.out
        rw [← HN.out] at hnx
        have HNX := Lib.hid hnx
        clear hh2 h2 hk hgs hlm hG2 hnx hmo
        go_upto_region 4 with fail
        rw [← hW2]
        clear hW2 r0 r1 r2 r3
        go_upto_region 6 with fail
        go_still_tail 9, (by kernel_rfl)
        go_wp2_with fail
        go_roundg (mu P l none st (wbit ws))
        case measure => omega
        case rel => exact ⟨st, ws, M.set k v, Nat.le_refl _, HNX.out.drewN 1⟩

end Go.Proofs.YtoniccokohjenaaDoor
