/-
  The walk of match's lay; the knot of lay, alt, repeat (chapter 19).
-/
import Derived.Test.YtoniccokohjenaaDoorMatO
import Derived.Test.YtoniccokohjenaaDoorMatE
namespace Go.Proofs.YtoniccokohjenaaDoor
open Go.RowKit

theorem layR_eq (x : Rx) (p : Nat) : layR x p = if x.kind = 0 then [] else if x.kind = 6 then laySeq x.kids p else if x.kind = 7 then layAlt x.kids p else if x.kind = 9 then sOpen x.group :: (layHead x.kids (p + 1) ++ [sShut x.group]) else if x.kind = 8 then repL (layHead x.kids) x.min x.max x.lazy p else [sTest x] := by
  obtain ⟨kind, rune, tt, kids, mn, mx, z, n, g, nm⟩ := x
  rw [layR]; rfl
theorem seq_append : ∀ (a b : List Rx) (p : Nat), laySeq (a ++ b) p = laySeq a p ++ laySeq b (p + (laySeq a p).length)
  | [], b, p => by simp [laySeq]
  | k :: a, b, p => by
    rw [List.cons_append, laySeq, seq_append a b, laySeq, List.append_assoc, List.length_append]
    congr 2
    rw [Nat.add_assoc]
theorem seq_take (ks : List Rx) (m : Nat) : (laySeq (ks.take m) 0).length ≤ (laySeq ks 0).length := by
  conv => rhs; rw [← List.take_append_drop m ks, seq_append]
  rw [List.length_append]; omega
theorem gd_kind {x : Rx} (h : Gd x) : x.kind ≤ 12 ∧ (x.kind = 7 → x.kids ≠ []) ∧ (x.kind = 9 → ∃ k, x.kids = [k]) ∧ (x.kind = 8 → ∃ k, x.kids = [k] ∧ 0 ≤ x.min ∧ x.min ≤ 255 ∧ (x.max = -1 ∨ (x.min ≤ x.max ∧ x.max ≤ 255))) := by
  cases h with
  | leaf h1 h2 => exact ⟨by omega, by omega, by omega, by omega⟩
  | set h1 _ => exact ⟨by omega, by omega, by omega, by omega⟩
  | seq h1 _ => exact ⟨by omega, by omega, by omega, by omega⟩
  | alt h1 h2 _ => exact ⟨by omega, fun _ => h2, by omega, by omega⟩
  | rep h1 h2 _ h4 h5 => exact ⟨by omega, by omega, by omega, fun _ => ⟨_, h2, h4.1, h4.2, h5⟩⟩
  | grp h1 h2 _ => exact ⟨by omega, by omega, fun _ => ⟨_, h2⟩, by omega⟩

set_option maxHeartbeats 4000000 in
set_option maxRecDepth 100000 in
theorem mtLay_step (w0 : World) (x : Rx) (hg : Gd x) (hl : x.kids.length ≤ 1002) (ih : ∀ k ∈ x.kids, LayOk w0 k) : LayOk w0 x := fun g zs A c w h hT hlen => by
  obtain ⟨hk12, hk7, hk9, hk8⟩ := gd_kind hg
  have heq := layR_eq x
  have HIH := Lib.hid ih
  have HT := Lib.hid hT
  have HB0 := Lib.hid (LyB.start (x := x) (A := A) (c := c) h)
  have HM0 := Lib.hid h
  obtain ⟨W1, hW1⟩ : ∃ W1, W1 = w.alloc (.cells (rxCells x (.slice A x.kids.length c)).toArray TRx) := ⟨_, rfl⟩
  rw [← hW1] at HB0
  obtain ⟨L0, hL0⟩ : ∃ m, m = zs.length := ⟨_, rfl⟩
  rw [← hL0] at hlen
  have HL0 := Lib.hid hL0
  have hL1 : L0 ≤ 30000 := by omega
  have HLEN := Lib.hid hlen
  have d0 := HB0.out.cell (j := 0) rfl
  simp only [rxCells] at hW1
  simp only [rxAgg]
  clear hL0 hlen h hT ih
  by_cases k0 : x.kind = 0
  · have HE := Lib.hid (show layR x zs.length = [] by rw [heq, if_pos k0])
    rw [k0] at d0
    clear heq hk7 hk9 hk8 k0 hk12
    go_enter Tryd.func13, Tryd.ntmps13
    go_upto_region 1 with fail
    rw [← hW1]
    clear hW1
    go_wp2
    refine bodyPost_ret (v := .tuple #[]) (by simp [results, Tryd.results13]) rfl ?_
    exact ⟨rfl, [], HB0.out.mak, HE.out.symm, HB0.out.off⟩
  by_cases k6 : x.kind = 6
  · have HE := Lib.hid (fun p => show layR x p = laySeq x.kids p by rw [heq, if_neg k0, if_pos k6])
    rw [k6] at d0
    clear heq hk7 hk9 hk8 k0 hk12 k6
    have d3 := HB0.out.cell (j := 3) rfl
    obtain ⟨n, hn⟩ : ∃ n, n = x.kids.length := ⟨_, rfl⟩
    have HN := Lib.hid hn
    rw [← hn] at d3 hl hW1 ⊢
    clear hn
    go_enter Tryd.func13, Tryd.ntmps13
    go_upto_region 1 with fail
    rw [← hW1]
    clear hW1
    go_wp2
    go_loopg [19] (n + 1) (fun kx v wr => ∃ (i : Nat) (new : List (Stp × Value)), v = .int .i64 (i : Int) ∧ i ≤ n ∧ n - i ≤ kx ∧ LyB w0 w wr g zs new x A c ∧ Hid (new.map Prod.fst = laySeq (x.kids.take i) L0))
    case atStart => exact ⟨0, [], by go_num, Nat.zero_le _, by omega, HB0.out, rfl⟩
    case round =>
      obtain ⟨i, new, rfl, hi, hik, hb, he⟩ := hrel
      have HB := Lib.hid hb
      have HEQ := Lib.hid he.out
      clear hb he d0 d3
      by_cases hlt : i < n
      · have z1 : decide ((i : Int) < (n : Int)) = true := decide_eq_true (by omega)
        have hlt' : i < x.kids.length := by rw [← HN.out]; exact hlt
        obtain ⟨q, o, rfl, hv⟩ := KT.kid HT.out (fun e => by rw [e] at hlt'; cases hlt')
        obtain ⟨k, hk⟩ : ∃ k, k = x.kids[i] := ⟨_, rfl⟩
        have hki : x.kids[i]? = some k := by rw [hk]; exact List.getElem?_eq_getElem hlt'
        obtain ⟨A1, c1, r1, k1⟩ := hv i k hki
        have htk : x.kids.take (i + 1) = x.kids.take i ++ [k] := by rw [List.take_succ_eq_append_getElem hlt', hk]
        have hnl : new.length = (laySeq (x.kids.take i) 0).length := by
          have := congrArg List.length HEQ.out
          rw [List.length_map, seq_len] at this; exact this
        have hbd : L0 + new.length + (layR k 0).length ≤ 30000 := by
          have h1 := seq_take x.kids (i + 1)
          rw [htk, seq_append, List.length_append, ← hnl, laySeq, laySeq, List.append_nil, lay_len] at h1
          have h2 := HLEN.out
          rw [HE.out] at h2
          omega
        have KC := Lib.hid (fun (W : World) (hm : MkB w0 W g (zs ++ new)) => HIH.out k (List.mem_of_getElem? hki) g (zs ++ new) A1 c1 W hm k1 (by rw [List.length_append, ← HL0.out]; omega))
        have HST := Lib.hid (show ∀ n1 : List (Stp × Value), n1.map Prod.fst = layR k (zs ++ new).length → (new ++ n1).map Prod.fst = laySeq (x.kids.take (i + 1)) L0 from fun n1 hn1 => by
          rw [List.map_append, HEQ.out, hn1, htk, seq_append, laySeq, laySeq, List.append_nil, List.length_append, ← HL0.out, hnl, seq_len _ L0])
        obtain ⟨e0, e1, e2, e3, e4, e5, e6, e7, e8, e9⟩ := rx_at (range_below r1 HB.out.mak.below)
        clear hv hk hki r1 k1 htk hnl hbd hlt'
        have i0 : (0 : Int) ≤ (i : Int) := by omega
        have i1 : (i : Int) < (n : Int) := by omega
        simp only [rxAgg] at KC
        have HB2 := Lib.hid (HB.out.call ((Below.refl _ wr).alloc (Nat.le_refl _) (.cells (rxCells k (.slice A1 k.kids.length c1)).toArray TRx)))
        go_wp2_with (go_at_call 13; refine (KC.out _ HB2.out.mak).mono ?_)
        rintro e w3 ⟨rfl, n1, h3, m3, o3⟩
        have HB3 := Lib.hid (HB2.out.next (new' := new ++ n1) (by rw [← List.append_assoc]; exact h3) o3)
        have HS3 := Lib.hid (HST.out n1 m3)
        clear h3 m3 o3 e0 e1 e2 e3 e4 e5 e6 e7 e8 e9
        go_wp2_with fail
        go_roundg (n - (i + 1))
        case measure => omega
        case rel => exact ⟨i + 1, new ++ n1, by go_num, by omega, Nat.le_refl _, HB3.out, HS3.out⟩
      · have z1 : decide ((i : Int) < (n : Int)) = false := decide_eq_false (by omega)
        go_wp2
        refine bodyPost_ret (v := .tuple #[]) (by simp [results, Tryd.results13]) rfl ?_
        refine ⟨rfl, new, HB.out.mak, ?_, HB.out.off⟩
        rw [HE.out, HEQ.out, List.take_of_length_le (by rw [← HN.out]; omega), HL0.out]
  by_cases k7 : x.kind = 7
  · have HE := Lib.hid (fun p => show layR x p = layAlt x.kids p by rw [heq, if_neg k0, if_neg k6, if_pos k7])
    have hne := hk7 k7
    obtain ⟨q, o, rfl, hv⟩ := KT.kid HT.out hne
    have hcp := KT.caps HT.out hne
    have KA := Lib.hid (fun (W : World) (hm : MkB w0 W g zs) => mtAlt_any w0 x.kids hne HIH.out g zs q o c W hm hv hcp.1 (by have := hcp.2; unfold maxLen at this; exact this) (by rw [← HL0.out, ← HE.out 0]; exact HLEN.out))
    have hm1 := HB0.out.mak
    rw [List.append_nil] at hm1
    have HM1 := Lib.hid hm1
    have d3 := HB0.out.cell (j := 3) rfl
    rw [k7] at d0
    clear heq hk7 hk9 hk8 k0 hk12 k6 k7 hne hv hcp hm1
    go_enter Tryd.func13, Tryd.ntmps13
    go_upto_region 1 with fail
    rw [← hW1]
    clear hW1
    go_wp2_with (go_at_call 26; with_reducible refine (KA.out _ HM1.out).mono ?_)
    rintro e w3 ⟨rfl, n1, h3, m3, o3⟩
    have H3 := Lib.hid h3
    have M3 := Lib.hid m3
    have O3 := Lib.hid (HB0.out.off.trans o3)
    clear h3 m3 o3
    go_wp2
    refine bodyPost_ret (v := .tuple #[]) (by simp [results, Tryd.results13]) rfl ?_
    exact ⟨rfl, n1, H3.out, by rw [HE.out]; exact M3.out, O3.out⟩
  have hm1 := HB0.out.mak
  rw [List.append_nil] at hm1
  have HM1 := Lib.hid hm1
  clear hm1
  by_cases k9 : x.kind = 9
  · obtain ⟨k, hk⟩ := hk9 k9
    have HE := Lib.hid (fun p => show layR x p = sOpen x.group :: (layR k (p + 1) ++ [sShut x.group]) by rw [heq, if_neg k0, if_neg k6, if_neg k7, if_pos k9, hk, layHead])
    obtain ⟨q, o, rfl, hv⟩ := KT.kid HT.out (by rw [hk]; simp)
    obtain ⟨A1, c1, r1, k1⟩ := hv 0 k (by rw [hk]; rfl)
    rw [Nat.zero_mul, Nat.add_zero] at r1
    have HR1 := Lib.hid r1
    have hkm : k ∈ x.kids := by rw [hk]; simp
    obtain ⟨lk, hlk⟩ : ∃ m, m = (layR k 0).length := ⟨_, rfl⟩
    have hbd : L0 + lk + 2 ≤ 30000 := by
      have := HLEN.out
      rw [HE.out] at this
      simp only [List.length_cons, List.length_append, List.length_nil] at this
      rw [lay_len, ← hlk] at this
      omega
    have HLK := Lib.hid hlk
    have HL1 := Lib.hid (show x.kids.length = 1 by rw [hk]; rfl)
    have KP1 := Lib.hid (show Calls Tryd.prog 14 #[.pointer (some ⟨g, 0, none⟩), .agg #[.int .i64 3, .int .i64 0, .int .i64 0, .int .i64 0, .slice none 0 0, .int .i64 0, .int .i64 0, .bool false, .bool false, .int .i64 0, .string ⟨#[]⟩, .int .i64 (x.group : Int), .int .i64 0]] W1 (RetE (.int .i64 (L0 : Int)) fun w' => MkB w0 w' g (zs ++ [(⟨3, rxNone, x.group, 0⟩, .slice none 0 0)]) ∧ OffM W1 w') from by
      rw [HL0.out]; exact mtPut_any (⟨3, rxNone, x.group, 0⟩, .slice none 0 0) W1 HM1.out (TzS.plain w0 3 x.group 0) (by rw [← HL0.out]; omega))
    have KL := Lib.hid (fun (W : World) (ys : List (Stp × Value)) (hm : MkB w0 W g ys) (hl : ys.length + lk ≤ 30000) => HIH.out k hkm g ys A1 c1 W hm k1 (by rw [← hlk]; exact hl))
    have d8 := HB0.out.cell (j := 8) rfl
    rw [k9] at d0
    simp only [rxAgg] at KL
    clear heq hk7 hk9 hk8 k0 hk12 k6 k7 k9 hk hv r1 k1 hkm hlk
    go_enter Tryd.func13, Tryd.ntmps13
    go_upto_region 1 with fail
    rw [← hW1]
    clear hW1
    go_wp2_with (go_at_call 14; with_reducible refine (KP1.out).mono ?_)
    rintro e w1 ⟨rfl, h1, o1⟩
    obtain ⟨zO, hzO⟩ : ∃ z : Stp × Value, z = (⟨3, rxNone, x.group, 0⟩, .slice none 0 0) := ⟨_, rfl⟩
    rw [← hzO] at h1
    have HB1 := Lib.hid (HB0.out.next h1 o1)
    have hz1 : (zs ++ [zO]).length = L0 + 1 := by rw [List.length_append, ← HL0.out]; rfl
    have KC := Lib.hid (KL.out w1 (zs ++ [zO]) h1 (by rw [hz1]; omega))
    have HZ1 := Lib.hid hz1
    have HZO := Lib.hid (show zO.1 = sOpen x.group by rw [hzO]; rfl)
    have d3 := HB1.out.cell (j := 3) rfl
    rw [HL1.out] at d3
    obtain ⟨e0, e1, e2, e3, e4, e5, e6, e7, e8, e9⟩ := rx_at (range_below HR1.out h1.below)
    clear h1 o1 hz1 hzO d0 d8
    go_wp2_with (go_at_call 13; with_reducible refine (KC.out).mono ?_)
    rintro e w2 ⟨rfl, n1, h2, m2, o2⟩
    rw [HZ1.out] at m2
    have hn1 : n1.length = lk := by
      have := congrArg List.length m2
      rw [List.length_map, lay_len, ← HLK.out] at this; exact this
    have HB2 := Lib.hid (HB1.out.next (new' := [zO] ++ n1) (by rw [← List.append_assoc]; exact h2) o2)
    have d8 := HB2.out.cell (j := 8) rfl
    obtain ⟨p2, hp2⟩ : ∃ p, p = L0 + 1 + lk := ⟨_, rfl⟩
    have hz2 : (zs ++ [zO] ++ n1).length = p2 := by rw [List.length_append, HZ1.out, hn1, hp2]
    have KP2 := Lib.hid (show Calls Tryd.prog 14 #[.pointer (some ⟨g, 0, none⟩), .agg #[.int .i64 4, .int .i64 0, .int .i64 0, .int .i64 0, .slice none 0 0, .int .i64 0, .int .i64 0, .bool false, .bool false, .int .i64 0, .string ⟨#[]⟩, .int .i64 (x.group : Int), .int .i64 0]] w2 (RetE (.int .i64 (p2 : Int)) fun w' => MkB w0 w' g (zs ++ [zO] ++ n1 ++ [(⟨4, rxNone, x.group, 0⟩, .slice none 0 0)]) ∧ OffM w2 w') from by
      rw [← hz2]; exact mtPut_any (⟨4, rxNone, x.group, 0⟩, .slice none 0 0) w2 h2 (TzS.plain w0 4 x.group 0) (by omega))
    have M2 := Lib.hid m2
    clear h2 m2 o2 hn1 hz2 hp2 d3 e0 e1 e2 e3 e4 e5 e6 e7 e8 e9
    go_wp2_with (go_at_call 14; with_reducible refine (KP2.out).mono ?_)
    rintro e w3 ⟨rfl, h3, o3⟩
    have H3 := Lib.hid h3
    have O3 := Lib.hid o3
    clear h3 o3
    go_wp2
    refine bodyPost_ret (v := .tuple #[]) (by simp [results, Tryd.results13]) rfl ?_
    refine ⟨rfl, zO :: (n1 ++ [(⟨4, rxNone, x.group, 0⟩, .slice none 0 0)]), by simpa using H3.out, ?_, HB2.out.off.trans O3.out⟩
    rw [HE.out, List.map_cons, List.map_append, HZO.out, M2.out, HL0.out]
    rfl
  have d1 := HB0.out.cell (j := 1) rfl
  have d2 := HB0.out.cell (j := 2) rfl
  have d3 := HB0.out.cell (j := 3) rfl
  have d4 := HB0.out.cell (j := 4) rfl
  have d5 := HB0.out.cell (j := 5) rfl
  have d6 := HB0.out.cell (j := 6) rfl
  have d7 := HB0.out.cell (j := 7) rfl
  have d8 := HB0.out.cell (j := 8) rfl
  have d9 := HB0.out.cell (j := 9) rfl
  by_cases k8 : x.kind = 8
  · obtain ⟨k, hk, h1, h2, h3⟩ := hk8 k8
    have hf : layHead x.kids = layR k := by rw [hk]; funext p; rw [layHead]
    have HE := Lib.hid (fun p => show layR x p = repL (layR k) x.min x.max x.lazy p by rw [heq, if_neg k0, if_neg k6, if_neg k7, if_neg k9, if_pos k8, hf])
    obtain ⟨a, ha⟩ : ∃ a : Nat, x.min = (a : Int) := ⟨x.min.toNat, by omega⟩
    have KR := Lib.hid (show Calls Tryd.prog 27 #[.pointer (some ⟨g, 0, none⟩), rxAgg x (.slice A x.kids.length c)] W1 (RetE (.tuple #[]) (LaidP w0 g zs (repL (layR k) x.min x.max x.lazy) W1)) from
      mtRep_any w0 x k hk a ha (by
        rcases h3 with h3 | h3
        · exact .inl h3
        · exact .inr ⟨(x.max - a).toNat, by omega, by omega⟩) (by omega) (HIH.out k (by rw [hk]; simp)) g zs A c W1 HM1.out HT.out (by rw [← HL0.out, ← HE.out 0]; exact HLEN.out))
    simp only [rxAgg] at KR
    have z0 : ((x.kind : Int) == 0) = false := beq_false_of_ne (by omega)
    have z6 : ((x.kind : Int) == 6) = false := beq_false_of_ne (by omega)
    have z7 : ((x.kind : Int) == 7) = false := beq_false_of_ne (by omega)
    have z9 : ((x.kind : Int) == 9) = false := beq_false_of_ne (by omega)
    have z8 : ((x.kind : Int) == 8) = true := by rw [k8]; rfl
    clear heq hk7 hk9 hk8 k0 hk12 k6 k7 k9 k8 hk h1 h2 h3 hf ha
    go_enter Tryd.func13, Tryd.ntmps13
    go_upto_region 1 with fail
    rw [← hW1]
    clear hW1
    go_wp2_with (go_at_call 27; with_reducible refine (KR.out).mono ?_)
    rintro e w3 ⟨rfl, n1, h3, m3, o3⟩
    have H3 := Lib.hid h3
    have M3 := Lib.hid m3
    have O3 := Lib.hid (HB0.out.off.trans o3)
    clear h3 m3 o3
    go_wp2
    refine bodyPost_ret (v := .tuple #[]) (by simp [results, Tryd.results13]) rfl ?_
    exact ⟨rfl, n1, H3.out, by rw [HE.out]; exact M3.out, O3.out⟩
  have HE := Lib.hid (fun p => show layR x p = [sTest x] by rw [heq, if_neg k0, if_neg k6, if_neg k7, if_neg k9, if_neg k8])
  have KP := Lib.hid (show Calls Tryd.prog 14 #[.pointer (some ⟨g, 0, none⟩), .agg #[.int .i64 0, .int .i64 (x.kind : Int), .int .i64 x.rune, .int .i64 x.to, .slice A x.kids.length c, .int .i64 x.min, .int .i64 x.max, .bool x.lazy, .bool x.not, .int .i64 (x.group : Int), .string ⟨x.name.toArray⟩, .int .i64 0, .int .i64 0]] W1 (RetE (.int .i64 (L0 : Int)) fun w' => MkB w0 w' g (zs ++ [(sTest x, .slice A x.kids.length c)]) ∧ OffM W1 w') from by
    rw [HL0.out]; exact mtPut_any (sTest x, .slice A x.kids.length c) W1 HM1.out ⟨A, c, rfl, HT.out⟩ (by rw [← HL0.out]; omega))
  have z0 : ((x.kind : Int) == 0) = false := beq_false_of_ne (by omega)
  have z6 : ((x.kind : Int) == 6) = false := beq_false_of_ne (by omega)
  have z7 : ((x.kind : Int) == 7) = false := beq_false_of_ne (by omega)
  have z9 : ((x.kind : Int) == 9) = false := beq_false_of_ne (by omega)
  have z8 : ((x.kind : Int) == 8) = false := beq_false_of_ne (by omega)
  clear heq hk7 hk9 hk8 k0 hk12 k6 k7 k9 k8
  go_enter Tryd.func13, Tryd.ntmps13
  go_upto_region 1 with fail
  rw [← hW1]
  clear hW1
  go_wp2_with (go_at_call 14; with_reducible refine (KP.out).mono ?_)
  rintro e w3 ⟨rfl, h3, o3⟩
  have H3 := Lib.hid h3
  have O3 := Lib.hid (HB0.out.off.trans o3)
  clear h3 o3
  go_wp2
  refine bodyPost_ret (v := .tuple #[]) (by simp [results, Tryd.results13]) rfl ?_
  exact ⟨rfl, _, H3.out, by rw [HE.out]; rfl, O3.out⟩

/-- any tree that was read is laid out -/
theorem mtLay_any (w0 : World) {m : Nat} (hm : m ≤ 1002) {x : Rx} (h : Sm m x) : Gd x → LayOk w0 x := by
  induction h with
  | mk hl _ ih => exact fun hg => mtLay_step w0 _ hg (Nat.le_trans hl hm) (fun k hk => ih k hk (hg.kid k hk))

end Go.Proofs.YtoniccokohjenaaDoor
