/-
  The walks of utf's Explode and Clean.
-/
import Derived.Test.YtoniccokohjenaaDoorUtfF
namespace Go.Proofs.YtoniccokohjenaaDoor
open Go.RowKit

theorem own_ne_iter {w : World} {base : Nat} {e : TypeId} {size : Nat} {v : Value} {n : Nat} {xs : List Value} (h : w.ownsRow base e size v n xs) {k : Nat} {s : ByteArray} {pos : Nat} (hk : w.heap[k]? = some (.stringIter s pos)) : some k ≠ v.ownBlock := by
  rcases h.2 with ⟨hv, _⟩ | ⟨g, cap, cur, hv, hg, hh, _⟩
  · rw [hv]; simp [Value.ownBlock]
  · rw [hv]
    intro e
    have : k = g := by simpa [Value.ownBlock] using e
    subst this
    rw [hk] at hh; cases hh

theorem next_at {P : Program} (w : World) (k : Nat) (s : ByteArray) (pos : Nat) (ty : TypeId) (hk : w.heap[k]? = some (.stringIter s pos)) (h : pos < s.size) :
    (Instr.next (.pointer (some ⟨k, 0, none⟩)) true ty).run P w = .ok (.tuple #[.bool true, .int .i64 pos, .int .i32 (dec (s.data.toList.drop pos)).1]) (w.iterAt k s (pos + (dec (s.data.toList.drop pos)).2)) := by
  rw [Lib.run_next_any_at w k s pos ty hk h, decode_drop s pos h]

set_option maxHeartbeats 400000 in
set_option maxRecDepth 100000 in
theorem utfExplode_any (s : ByteArray) (w : World) (hs : s.size ≤ 17592186044416) :
    Calls Tryd.prog 6 #[.string s] w fun e w' => IsOwn (explode s.data.toList) w w' e := by
  obtain ⟨i0, hi, hz0, hz1, hz2⟩ := info_parts info_int
  have HSZ := Lib.hid (Lib.size_eq s)
  go_enter Tryd.func6, Tryd.ntmps6
  go_wp2
  go_loopw [3] (fun v wr => ∃ (k : Nat) (acc : List Int), k ≤ s.size ∧ wr.heap[w.heap.size]? = some (.stringIter s k) ∧ OwnInts w.heap.size wr v acc ∧ Hid (explode s.data.toList = acc ++ explode (s.data.toList.drop k)) ∧ acc.length ≤ k ∧ Below w.heap.size w wr) (fun _ wr => s.size - wr.iterPos w.heap.size)
  case atStart => exact ⟨0, [], Nat.zero_le _, World.iter_heap w s 0, World.ownsRow_nil _ _ _ _, rfl, Nat.le_refl _, (Below.refl _ w).alloc (Nat.le_refl _) _⟩
  case round =>
    obtain ⟨k, acc, hk, hit, hown, hv, hal, hb⟩ := hrel
    have hsz : w.heap.size < wr.heap.size := (Array.getElem?_eq_some_iff.1 hit).1
    by_cases hlt : k < s.size
    · have hne : (s.data.toList.drop k).length ≠ 0 := by rw [List.length_drop, ← HSZ.out]; omega
      have hn := dec_n _ hne
      have hl : (s.data.toList.drop k).length = s.size - k := by rw [List.length_drop, ← HSZ.out]
      have hn3 : (dec (s.data.toList.drop k)).2 ≤ s.size - k := by rw [← hl]; exact hn.2.2
      have hnx : ∀ ty, (Instr.next (.pointer (some ⟨w.heap.size, 0, none⟩)) true ty).run Tryd.prog wr = _ := fun ty => next_at wr w.heap.size s k ty hit hlt
      have hst := explode_cons _ hne
      rw [List.drop_drop] at hst
      have hle := dec_le (s.data.toList.drop k)
      clear hl hne
      generalize explode (s.data.toList.drop k) = V at hv hst
      generalize (dec (s.data.toList.drop k)).1 = r at hnx hle hst
      generalize (dec (s.data.toList.drop k)).2 = n at hnx hn hst hle hn3
      obtain ⟨hn1, hn2, _⟩ := hn
      have hr : (r : Int) ≤ 1114111 := by omega
      have HST := Lib.hid hst
      clear hst
      have hown1 := own_iterAt hown hit (k + n)
      have hit1 := Lib.iterAt_heap wr w.heap.size s k (k + n) hit
      have hb1 := Lib.below_iterAt hb (k := w.heap.size) (Nat.le_refl _) s (k + n)
      have hsz1 : w.heap.size < (wr.iterAt w.heap.size s (k + n)).heap.size := by rw [Lib.iterAt_size]; exact hsz
      have HIT1 := Lib.hid hit1
      have HIT := Lib.hid hit
      clear hit1 hit hown hb
      go_wp2_with (at_builtin; refine wpList_append_own _ rfl _ _ 24 rfl w.heap.size 3 i0 (.int .i64 0) 1 8 Tryd.underlying24 hi hz0 hz1 hz2 rfl (by decide) _ _ _ rfl (hown1.alloc _) ⟨(wr.iterAt w.heap.size s (k + n)).heap.size, 0, none⟩ 1 1 [.int .i64 r] rfl rfl ?c1 ?c2 ?c3 ?c4 ?c5 ?_)
      case c1 => exact cell_one_new _ _ _
      case c2 => intro u hu; simp at hu; subst hu; rfl
      case c3 => unfold maxLen; omega
      case c4 => omega
      case c5 => simp; omega
      intro v' w2 hown' hgrow _
      have hit2 : w2.heap[w.heap.size]? = some (.stringIter s (k + n)) := by
        rw [hgrow.block w.heap.size (by simp; omega) (own_ne_iter hown1 HIT1.out), Below.heap_alloc _ _ _ hsz1]
        exact HIT1.out
      have hb2 := (hb1.alloc (by omega) _).grown hgrow (by simp; omega) (fun j hj => (hown1.lt j hj).1)
      have HIT2 := Lib.hid hit2
      clear hit2
      go_wp2
      go_roundw
      case rel =>
        refine ⟨k + n, acc ++ [(r : Int)], by omega, HIT2.out, ?_, ?_, by simp; omega, hb2⟩
        · unfold OwnInts; rw [← ints_append, List.length_append]; exact hown'
        · show _ = _; rw [hv.out, HST.out]; simp
      case measure => rw [iterPos_of HIT2.out, iterPos_of HIT.out]; omega
    · have hnx : ∀ ty, (Instr.next (.pointer (some ⟨w.heap.size, 0, none⟩)) true ty).run Tryd.prog wr = _ := fun ty => Lib.run_next_end_at wr w.heap.size s k ty hit hlt
      have hd : explode (s.data.toList.drop k) = [] := explode_nil _ (by rw [List.length_drop, ← HSZ.out]; omega)
      have HD := Lib.hid hd
      clear hd
      go_wp2
      go_ret
      refine ⟨_, rfl, ?_, hb⟩
      have := hv.out
      rw [HD.out, List.append_nil] at this
      rw [this]
      exact hown

theorem runeCells_enc (p : Int) (h : isPt p = true) : Lib.runeCells p = Lib.byteCells (enc p) := by
  rw [enc_rune p h, Lib.byteCells_encodeRune]

theorem allB_cons (p : Int) (l : List Int) : allB (p :: l) = enc p ++ allB l := rfl
theorem allB_append (l m : List Int) : allB (l ++ m) = allB l ++ allB m := by unfold allB; rw [List.flatMap_append]
theorem enc_pos (p : Int) : 1 ≤ (enc p).length ∧ (enc p).length ≤ 4 := by rw [enc_len]; (repeat' split) <;> omega

/-- a sound text is its code points' bytes -/
theorem dec_enc (l : List UInt8) (h : decOk l = true) : enc ((dec l).1 : Int) = l.take (dec l).2 := by
  have h0 : l.length ≠ 0 := by
    intro h0
    unfold decOk dec at h
    rw [if_pos h0] at h
    simp at h
  have key : ∀ (a b c d : Nat), (∀ k, k < l.length → k < 4 → (l[k]?.getD 0).toNat = [a, b, c, d].getD k 0) → a < 256 → b < 256 → c < 256 → d < 256 → bt l 0 = a → bt l 1 = b → bt l 2 = c → bt l 3 = d → True := fun _ _ _ _ _ _ _ _ _ _ _ _ _ => trivial
  clear key
  have g : ∀ k, k < l.length → l[k]? = some (UInt8.ofNat (bt l k)) := by
    intro k hk
    unfold bt
    rw [List.getElem?_eq_getElem hk]
    simp
  unfold decOk at h
  have hd : dec l = Lib.decodeN l.length (bt l 0) (bt l 1) (bt l 2) (bt l 3) := by unfold dec; rw [if_neg h0]
  have l0 := bt_lt l 0; have l1 := bt_lt l 1; have l2 := bt_lt l 2; have l3 := bt_lt l 3
  have tk : ∀ n, n ≤ l.length → n ≤ 4 → l.take n = ((List.range n).map fun k => UInt8.ofNat (bt l k)) := by
    intro n hn _
    apply List.ext_getElem?
    intro k
    rw [List.getElem?_take, List.getElem?_map]
    by_cases hk : k < n
    · rw [if_pos hk, g k (by omega), List.getElem?_range hk]; rfl
    · rw [if_neg hk, List.getElem?_eq_none (by simp; omega)]; rfl
  rcases decodeN_cases l.length (bt l 0) (bt l 1) (bt l 2) (bt l 3) l0 l1 l2 l3 with ⟨a1, e⟩ | ⟨a1, a2, a3, a4, a5, a6, e⟩ | ⟨a1, a2, a3, a4, a5, a6, a7, a8, a9, e⟩ | ⟨a1, a2, a3, a4, a5, a6, a7, a8, a9, a10, a11, e⟩ | ⟨a1, e⟩
  · rw [hd, e, tk 1 (by omega) (by omega)]
    unfold enc ptBytes
    rw [if_pos (by omega)]
    simp [List.range_succ]
  · rw [hd, e, tk 2 (by omega) (by omega)]
    unfold enc ptBytes
    simp only []
    rw [if_neg (by omega), if_pos (by omega)]
    simp only [List.map_cons, List.map_nil, List.range_succ, List.range_zero, List.nil_append, List.cons_append, List.cons.injEq, and_true]
    rw [ofNat_iff _ (by omega), ofNat_iff _ (by omega), UInt8.toNat_ofNat', UInt8.toNat_ofNat']
    omega
  · rw [hd, e, tk 3 (by omega) (by omega)]
    unfold enc ptBytes
    simp only []
    rw [if_neg (by omega), if_neg (by omega), if_pos (by omega)]
    simp only [List.map_cons, List.map_nil, List.range_succ, List.range_zero, List.nil_append, List.cons_append, List.cons.injEq, and_true]
    rw [ofNat_iff _ (by omega), ofNat_iff _ (by omega), ofNat_iff _ (by omega), UInt8.toNat_ofNat', UInt8.toNat_ofNat', UInt8.toNat_ofNat']
    omega
  · rw [hd, e, tk 4 (by omega) (by omega)]
    unfold enc ptBytes
    simp only []
    rw [if_neg (by omega), if_neg (by omega), if_neg (by omega)]
    simp only [List.map_cons, List.map_nil, List.range_succ, List.range_zero, List.nil_append, List.cons_append, List.cons.injEq, and_true]
    rw [ofNat_iff _ (by omega), ofNat_iff _ (by omega), ofNat_iff _ (by omega), ofNat_iff _ (by omega), UInt8.toNat_ofNat', UInt8.toNat_ofNat', UInt8.toNat_ofNat', UInt8.toNat_ofNat']
    omega
  · rw [hd, e] at h
    simp at h

theorem clean_valid (l : List UInt8) (h : valid l = l.length) : clean l = l := by
  suffices hh : ∀ k (l : List UInt8), l.length ≤ k → valid l = l.length → clean l = l from hh _ l (Nat.le_refl _) h
  intro k
  induction k with
  | zero =>
    intro l hl _
    have : l = [] := List.eq_nil_of_length_eq_zero (by omega)
    subst this
    unfold clean; rw [explode_nil _ rfl]; rfl
  | succ k ih =>
    intro l hl hv
    by_cases h0 : l.length = 0
    · have : l = [] := List.eq_nil_of_length_eq_zero h0
      subst this
      unfold clean; rw [explode_nil _ rfl]; rfl
    have hn := dec_n l h0
    cases hd : decOk l with
    | false => rw [valid_stop l hd] at hv; omega
    | true =>
      rw [valid_step l h0 hd] at hv
      have hr := ih (l.drop (dec l).2) (by rw [List.length_drop]; omega) (by rw [List.length_drop]; omega)
      unfold clean at hr ⊢
      rw [explode_cons l h0, allB_cons, hr, dec_enc l hd, List.take_append_drop]

set_option maxHeartbeats 1000000 in
set_option maxRecDepth 100000 in
theorem utfClean_any (s : ByteArray) (w : World) (hT : Tabs w) (hs : s.size ≤ 17592186044416) :
    Calls Tryd.prog 9 #[.string s] w fun e w' => e = .returned (.string ⟨(clean s.data.toList).toArray⟩) ∧ Below w.heap.size w w' := by
  have HSZ := Lib.hid (Lib.size_eq s)
  have hcv := clean_valid s.data.toList
  rw [← Lib.size_eq] at hcv
  have HCV := Lib.hid hcv
  have hVc := utfValid_any s w hT (by unfold maxLen; omega)
  clear hcv
  generalize valid s.data.toList = V at hVc HCV
  have HVC := Lib.hid hVc
  clear hVc
  by_cases hvl : V = s.size
  · have hvt : ((V : Int) == (s.size : Int)) = true := by rw [hvl]; simp
    have HVL := Lib.hid hvl
    clear hvl
    go_enter Tryd.func9, Tryd.ntmps9
    go_wp2_with (go_at_call 21; refine HVC.out.mono ?_; rintro e w1 ⟨rfl, hb1⟩)
    go_ret
    exact ⟨by rw [HCV.out HVL.out, Lib.mk_data]; rfl, by assumption⟩
  · have hvt : ((V : Int) == (s.size : Int)) = false := by simp; omega
    clear hvl
    go_enter Tryd.func9, Tryd.ntmps9
    go_wp2_with (go_at_call 21; refine HVC.out.mono ?_)
    rintro e w1 ⟨rfl, hb1⟩
    have hw1 := hb1.size
    go_wp2
    go_loopw [] (fun wr => ∃ (k : Nat) (acc : List UInt8), k ≤ s.size ∧ Lib.IsBuilderF 66 5 w1.heap.size w1.heap.size (Lib.byteCells acc) wr ∧ wr.heap[w1.heap.size + 1]? = some (.stringIter s k) ∧ Hid (clean s.data.toList = acc ++ clean (s.data.toList.drop k)) ∧ acc.length ≤ 4 * k ∧ Below w1.heap.size w1 wr) (fun wr => s.size - wr.iterPos (w1.heap.size + 1))
    case atStart =>
      refine ⟨0, [], Nat.zero_le _, (Lib.IsBuilderF.of (Lib.fresh_isBuilder 66 5 w1)).alloc _, ?_, rfl, by simp, ((Below.refl _ w1).alloc (Nat.le_refl _) _).alloc (by simp) _⟩
      have := World.iter_heap (w1.alloc (.cells #[.pointer none, .slice none 0 0] 66)) s 0
      simpa using this
    case round =>
      obtain ⟨k, acc, hk, hI, hit, hv, hal, hb⟩ := hrel
      have hsz : w1.heap.size + 1 < wr.heap.size := (Array.getElem?_eq_some_iff.1 hit).1
      by_cases hlt : k < s.size
      · have hne : (s.data.toList.drop k).length ≠ 0 := by rw [List.length_drop, ← HSZ.out]; omega
        have hn := dec_n _ hne
        have hl : (s.data.toList.drop k).length = s.size - k := by rw [List.length_drop, ← HSZ.out]
        have hn3 : (dec (s.data.toList.drop k)).2 ≤ s.size - k := by rw [← hl]; exact hn.2.2
        have hnx : ∀ ty, (Instr.next (.pointer (some ⟨w1.heap.size + 1, 0, none⟩)) true ty).run Tryd.prog wr = _ := fun ty => next_at wr (w1.heap.size + 1) s k ty hit hlt
        have hst : clean (s.data.toList.drop k) = _ := congrArg allB (explode_cons _ hne)
        rw [List.drop_drop, allB_cons] at hst
        have hpt := dec_pt (s.data.toList.drop k)
        have hle := dec_le (s.data.toList.drop k)
        clear hl hne
        generalize clean (s.data.toList.drop k) = V2 at hv hst
        generalize (dec (s.data.toList.drop k)).1 = r at hnx hle hst hpt
        generalize (dec (s.data.toList.drop k)).2 = n at hnx hn hst hle hn3
        obtain ⟨hn1, hn2, _⟩ := hn
        have hr : (r : Int) ≤ 1114111 := by omega
        have HST := Lib.hid hst
        have HRC := Lib.hid (runeCells_enc r hpt)
        have HE4 := Lib.hid (enc_pos (r : Int))
        clear hst hpt
        have hI1 := hI.iterAt hit (k + n)
        have hit1 := Lib.iterAt_heap wr (w1.heap.size + 1) s k (k + n) hit
        have hb1' := Lib.below_iterAt hb (k := w1.heap.size + 1) (by omega) s (k + n)
        have hsz1 : w1.heap.size ≤ (wr.iterAt (w1.heap.size + 1) s (k + n)).heap.size := by rw [Lib.iterAt_size]; omega
        have HIT1 := Lib.hid hit1
        have HIT := Lib.hid hit
        have HI1 := Lib.hid hI1
        clear hit1 hit hI hI1 hb
        go_wp2_with (go_at_call 22; refine (bld_writeRune w1.heap.size w1.heap.size _ (r : Int) (by omega) (by omega) _ HI1.out (by rw [Lib.byteCells_length]; omega) hsz1).mono ?_)
        rintro e w2 ⟨rfl, h1, b1, k1⟩
        have HIT2 := Lib.hid (k1.iter HIT1.out (by omega))
        go_wp2
        go_roundw
        case rel =>
          refine ⟨k + n, acc ++ enc (r : Int), by omega, ?_, HIT2.out, ?_, by have := HE4.out; simp; omega, hb1'.trans b1⟩
          · rw [Lib.byteCells_append, ← HRC.out]; exact Or.inr h1
          · show _ = _; rw [hv.out, HST.out, List.append_assoc]; rfl
        case measure => rw [iterPos_of HIT2.out, iterPos_of HIT.out]; omega
      · have hnx : ∀ ty, (Instr.next (.pointer (some ⟨w1.heap.size + 1, 0, none⟩)) true ty).run Tryd.prog wr = _ := fun ty => Lib.run_next_end_at wr (w1.heap.size + 1) s k ty hit hlt
        have hd : clean (s.data.toList.drop k) = [] := by unfold clean; rw [explode_nil _ (by rw [List.length_drop, ← HSZ.out]; omega)]; rfl
        have HD := Lib.hid hd
        clear hd
        go_wp2_with (go_at_call 20; refine (Tryd.Builder_String_any_k w1.heap.size w1.heap.size acc _ hI (by omega)).mono ?_)
        rintro e w2 ⟨rfl, _, b1, _⟩
        go_wp2
        go_ret
        have := hv.out
        rw [HD.out, List.append_nil] at this
        rw [this]
        exact ⟨rfl, hb1.trans ((hb.trans b1).mono hw1)⟩

end Go.Proofs.YtoniccokohjenaaDoor
