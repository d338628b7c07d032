/-
  The walk of the reference's named (chapter 18).
-/
import Derived.Test.YtoniccokohjenaaRfI
namespace Go.Proofs.Ytoniccokohjenaa
open Go.RowKit

/-- what named answers -/
def NmP (L : LX) (l : List Int) (p0 : PX) (w : World) : PR (List UInt8) → Ending → World → Prop
  | .ok n s, e, w' => ∃ p, e = .returned (.tuple #[pAgg L p, .string ⟨n.toArray⟩]) ∧ Lv w' L l s p ∧ Below w.heap.size w w'
  | .bad a m, e, w' => ∃ (p : PX) (t : List UInt8), e = .returned (.tuple #[pAgg L p, .string ⟨t.toArray⟩]) ∧ BadX p a m ∧ p.na = p0.na ∧ p.nn = p0.nn ∧ p.nc = p0.nc ∧ Below w.heap.size w w'

set_option maxHeartbeats 4000000 in
set_option maxRecDepth 100000 in
theorem rfNamed_any (L : LX) (l : List Int) (s : PS) (p : PX) (w : World) (h : Lv w L l s p) :
    Calls Try.prog 108 #[pAgg L p] w (NmP L l p w (nameR l s)) := by
  have HLv := Lib.hid h
  have HPT := Lib.hid h.pat
  have hi := h.i
  have hl := h.fin.len
  have hp := h.fin.pos
  obtain ⟨nm, hnm⟩ : ∃ n, n = nmL false (l.drop s.pos) := ⟨_, rfl⟩
  have HN := Lib.hid (show nameR l s = if nm = [] ∨ due l (s.pos + nm.length) ≠ 62 then failR l (s.pos + nm.length) else if nm ∈ s.names then failR l (s.pos + nm.length - 1) else .ok nm { s with pos := s.pos + nm.length + 1 } by rw [hnm]; rfl)
  have HNM := Lib.hid hnm
  have KS := Lib.hid (fun (j : Nat) (W : World) (hL : LRd W L l) (hj : j ≤ 1000) => show Calls Try.prog 55 #[pAgg L { p with i := (j : Int) }, .int .i64 0] W (RetE (.int .i64 (due l j)) fun w' => Below W.heap.size W w') from rfSign L { p with i := (j : Int) } l j 0 W hL rfl hl (by omega) (by omega))
  clear h hnm
  go_enter Try.func108, Try.ntmps108
  go_wp2_with (with_reducible refine box_p (by with_reducible rfl) _ (by with_reducible rfl) (L := L) (p := p) (by simp [Act.eval]) ?_)
  intro V hV bV sV
  go_wp2_with (with_reducible refine room_p (by with_reducible rfl) (by with_reducible rfl) hV ?_)
  intro W hW bW sW
  clear hV bV sV bW sW
  have H := Lib.hid (show PF w W w.heap.size (w.heap.size + 1) L { p with i := (s.pos : Int) } by rw [PX.at_i hi]; exact hW)
  clear hW
  go_wp2
  go_loopw [4] (fun v wr => ∃ (acc : List UInt8) (j : Nat), v = .string ⟨acc.toArray⟩ ∧ j = s.pos + acc.length ∧ j ≤ l.length ∧ PF w wr w.heap.size (w.heap.size + 1) L { p with i := (j : Int) } ∧ Hid (nm = acc ++ nmL (!acc.isEmpty) (l.drop j))) (fun _ wr => l.length - pPos w.heap.size wr)
  case atStart => exact ⟨[], s.pos, rfl, by simp, hp, H.out, by rw [HNM.out]; exact Lib.hid rfl⟩
  case round =>
    obtain ⟨acc, j, rfl, hja, hjl, hv, he⟩ := hrel
    have H1 := Lib.hid hv
    have HJA := Lib.hid hja
    have HPO := Lib.hid (show pPos w.heap.size wr = j from hv.pos_of rfl)
    have kj := fun W hL => KS.out j W hL (by omega)
    have kl := fun W => RetE.of (rfLetter_any (due l j) W)
    have kdg := fun W => RetE.of (rfDigit_any (due l j) W)
    clear hv hja
    obtain ⟨go, hgo⟩ : ∃ g, g = (letR (due l j) || (!acc.isEmpty && digI (due l j))) := ⟨_, rfl⟩
    have HGO := Lib.hid hgo
    have hlet : letR (due l j) = (ltrI (due l j) || due l j == 95) := rfl
    go_upto_region 2 with fail
    go_cut [22] from 6 to 33 (fun t wx => t = .bool go ∧ Below wr.heap.size wr wx)
    case first =>
      rw [hlet] at hgo
      clear HGO hlet he
      generalize due l j = d at *
      generalize digI d = dg at *
      generalize ltrI d = lt at *
      have KJ := Lib.hid kj
      have KL := Lib.hid kl
      have KDG := Lib.hid kdg
      clear kj kl kdg
      cases lt with
      | true =>
        have hg : go = true := by rw [hgo]; simp
        clear hgo
        go_wp2_with (first
          | (with_reducible refine load_p (by with_reducible rfl) _ (by with_reducible rfl) w.heap.size (by first | (simp [Act.eval]; done) | simp [Act.eval, Act.put]) H1.out ?_)
          | (go_at_call 55; (with_reducible refine (KJ.out _ (HPT.out.below H1.out.below)).mono ?_)))
        rintro e w1 ⟨rfl, hb1⟩
        have HB1 := Lib.hid hb1
        clear hb1
        go_wp2_with (first
          | (go_at_call 116; (with_reducible refine (KL.out _).mono ?_)))
        rintro e w2 ⟨rfl, rfl⟩
        go_wp2_with fail
        go_meet
        exact ⟨by rw [hg], HB1.out⟩
      | false =>
        go_wp2_with (first
          | (with_reducible refine load_p (by with_reducible rfl) _ (by with_reducible rfl) w.heap.size (by first | (simp [Act.eval]; done) | simp [Act.eval, Act.put]) H1.out ?_)
          | (go_at_call 55; (with_reducible refine (KJ.out _ (HPT.out.below H1.out.below)).mono ?_)))
        rintro e w1 ⟨rfl, hb1⟩
        have H2 := Lib.hid (H1.out.call hb1)
        have HB1 := Lib.hid hb1
        clear hb1
        go_wp2_with (first
          | (go_at_call 116; (with_reducible refine (KL.out _).mono ?_)))
        rintro e w2 ⟨rfl, rfl⟩
        go_wp2_with (first
          | (with_reducible refine load_pG (by with_unfolding_all rfl) _ (by with_reducible rfl) w.heap.size (by first | (simp [Act.eval]; done) | simp [Act.eval, Act.put]) H2.out ?_)
          | (go_at_call 55; (with_reducible refine (KJ.out _ (HPT.out.below H2.out.below)).mono ?_)))
        rintro e w3 ⟨rfl, hb3⟩
        have H3 := Lib.hid (H2.out.call hb3)
        have HB3 := Lib.hid (HB1.out.trans (hb3.mono HB1.out.size))
        clear hb3
        by_cases h95 : d = 95
        · have hg : go = true := by rw [hgo, h95]; simp
          have z1 : (d == 95) = true := by simp [h95]
          clear hgo h95
          go_wp2_with fail
          go_meet
          exact ⟨by rw [hg], HB3.out⟩
        · have z1 : (d == 95) = false := beq_false_of_ne h95
          cases acc with
          | nil =>
            have hg : go = false := by rw [hgo, z1]; simp
            clear hgo h95
            go_wp2_with fail
            go_meet
            exact ⟨by rw [hg], HB3.out⟩
          | cons a0 acc =>
            have hg : go = dg := by rw [hgo, z1]; simp
            clear hgo h95
            go_wp2_with (first
              | (with_reducible refine load_pG (by with_unfolding_all rfl) _ (by with_reducible rfl) w.heap.size (by first | (simp [Act.eval]; done) | simp [Act.eval, Act.put]) H3.out ?_)
              | (go_at_call 55; (with_reducible refine (KJ.out _ (HPT.out.below H3.out.below)).mono ?_)))
            rintro e w4 ⟨rfl, hb4⟩
            have HB4 := Lib.hid (HB3.out.trans (hb4.mono HB3.out.size))
            clear hb4
            go_wp2_with (first
              | (go_at_call 112; (with_reducible refine (KDG.out _).mono ?_)))
            rintro e w5 ⟨rfl, rfl⟩
            go_wp2_with fail
            go_meet
            exact ⟨by rw [hg], HB4.out⟩
    case rest =>
      obtain ⟨rfl, hbc⟩ := hcut
      have H4 := Lib.hid (H1.out.call hbc)
      clear hbc H1
      cases go with
      | true =>
        have hg := HGO.out.symm
        have hr := let_range hg
        have hlt : j < l.length := due_lt rfl (fun e => by rw [e] at hr; omega)
        have he2 := nm_step he.out (nmL_go hg)
        have HE2 := Lib.hid he2
        have hx : ((UInt8.ofNat (due l j).toNat).toNat : Int) = due l j := by
          rw [UInt8.toNat_ofNat', Nat.mod_eq_of_lt (by omega)]; omega
        have hal : acc.length ≤ 1000 := by have := HJA.out; omega
        clear HGO he hg he2 hlet kl kdg hgo
        generalize due l j = d at *
        generalize UInt8.ofNat d.toNat = xb at *
        have KJ := Lib.hid kj
        clear kj
        go_wp2_with (first
          | (with_reducible refine load_p (by with_reducible rfl) _ (by with_reducible rfl) w.heap.size (by first | (simp [Act.eval]; done) | simp [Act.eval, Act.put]) H4.out ?_)
          | (go_at_call 55; (with_reducible refine (KJ.out _ (HPT.out.below H4.out.below)).mono ?_)))
        rintro e w6 ⟨rfl, hb6⟩
        have H6 := Lib.hid (H4.out.call hb6)
        have c1 := H6.out.i
        have f1 := H6.out.frozen 1
        have a1 : IntKind.u8.wrap d = d := by simp [IntKind.wrap, IntKind.bits, IntKind.signed]; omega
        clear hb6
        have hcv : (convert 110 9 (.slice (some ⟨w6.heap.size, 0, none⟩) 1 1)).run Try.prog (w6.alloc (.cells #[.int .u8 d] 5)) = .ok (.string ⟨[xb].toArray⟩) (w6.alloc (.cells #[.int .u8 d] 5)) :=
          run_convert_bytes_back _ 110 9 5 ⟨w6.heap.size, 0, none⟩ 1 [xb] Try.underlying110 Try.underlying5 Try.underlying9 (fun j hj => by
            obtain rfl : j = 0 := by simpa using hj
            have := cell_one_new w6 (.int .u8 d) 5 0 (.int .u8 d) rfl
            rw [this]; simp [hx])
        have H7 := Lib.hid ((H6.out.alloc (.cells #[.int .u8 d] 5)).set (j := 1) (v := .int .i64 ((j : Int) + 1)) (p' := { p with i := ((j + 1 : Nat) : Int) }) rfl)
        have HCV := Lib.hid hcv
        have c1' := (H6.out.alloc (.cells #[.int .u8 d] 5)).i
        have f1' := (H6.out.alloc (.cells #[.int .u8 d] 5)).frozen 1
        clear hcv hr
        go_wp2_with fail
        rw [HCV.out]
        generalize w6.alloc (.cells #[.int .u8 d] 5) = w8 at *
        go_wp2_with fail
        go_roundw
        case rel => exact ⟨acc ++ [xb], j + 1, congrArg Value.string (ByteArray.ext (by simp)), by rw [List.length_append, List.length_singleton]; have := HJA.out; omega, hlt, H7.out, HE2⟩
        case measure =>
          have hm : pPos w.heap.size (w8.setCell ⟨w.heap.size, 1, none⟩ (.int .i64 ((j : Int) + 1))) = j + 1 := H7.out.pos_of rfl
          rw [hm, HPO.out]; omega
      | false =>
        have hnm : nm = acc := by rw [he.out, nmL_end HGO.out.symm, List.append_nil]
        subst hnm
        have hjn : s.pos + nm.length = j := HJA.out.symm
        clear HGO he hgo hlet kl kdg HNM
        have hn := HN.out
        rw [hjn] at hn
        have hnlen : nm.length ≤ 1000 := by omega
        have hij : ({ p with i := (j : Int) } : PX).i = (j : Int) := rfl
        have hlvj : Lv w L l { s with pos := j } { p with i := (j : Int) } := HLv.out.moved j (by omega) hjl
        have hst : ∀ n, (stopX L { p with i := (j : Int) } n).na = p.na ∧ (stopX L { p with i := (j : Int) } n).nn = p.nn ∧ (stopX L { p with i := (j : Int) } n).nc = p.nc := fun n => by unfold stopX; split <;> exact ⟨rfl, rfl, rfl⟩
        have hbs0 := stopX_fail (α := List UInt8) (L := L) (l := l) (p := { p with i := (j : Int) }) (i := j) HPT.out.1.symm
        have hbs1 := stopX_fail (α := List UInt8) (L := L) (l := l) (p := { p with i := (j : Int) }) (i := j - 1) HPT.out.1.symm
        generalize ({ p with i := (j : Int) } : PX) = pj at *
        have HIJ := Lib.hid hij
        have HST := Lib.hid hst
        have HLJ := Lib.hid hlvj
        clear hij hst hlvj
        cases hne : nm with
        | nil =>
          rw [hne, if_pos (.inl rfl)] at hn
          obtain ⟨a', m', hf, hbx⟩ := hbs0
          have HM := Lib.hid (hn.trans hf)
          have HBX := Lib.hid hbx
          have KST := Lib.hid (fun W => rfStop L pj (j : Int) W)
          clear hn hf hbx HN hbs1 hne
          have c1 := H4.out.i
          rw [HIJ.out] at c1
          go_wp2_with (first
            | (with_reducible refine load_p (by with_reducible rfl) _ (by with_reducible rfl) w.heap.size (by first | (simp [Act.eval]; done) | simp [Act.eval, Act.put]) H4.out ?_)
            | (go_at_call 32; (with_reducible refine (KST.out _).mono ?_)))
          rintro e w8 ⟨rfl, hb8⟩
          have H8 := Lib.hid (H4.out.call hb8)
          clear hb8 c1
          go_wp2_with (first
            | (with_reducible refine store_r (by with_reducible rfl) _ _ (by with_reducible rfl) (w.heap.size + 1) (p' := stopX L pj (j : Int)) (by first | (simp [Act.eval]; done) | simp [Act.eval, Act.put]) (by first | (simp [Act.eval]; done) | simp [Act.eval, Act.put]) H8.out ?_))
          intro W2 h2 b2 _
          go_wp2
          refine ret_p2 (k := 2) (j := 3) Try.results108 h2 (by simp) (by simp; rfl) rfl ?_
          rw [HM.out]
          exact ⟨_, [], rfl, HBX.out, (HST.out _).1, (HST.out _).2.1, (HST.out _).2.2, b2⟩
        | cons a0 nm' =>
          rw [← hne]
          have hne0 : nm ≠ [] := by rw [hne]; simp
          have hie : nm.isEmpty = false := by rw [hne]; rfl
          by_cases h62 : due l j = 62
          · rw [if_neg (by intro h; rcases h with h | h; exact hne0 h; exact h h62)] at hn
            have hlt := due_lt h62 (by decide)
            rw [h62] at kj
            have KJ := Lib.hid kj
            have HN2 := Lib.hid hn
            have HNE := Lib.hid hne0
            have HJP := Lib.hid (show 1 ≤ j by have := hjn; have : nm.length ≠ 0 := fun e => hne0 (List.eq_nil_of_length_eq_zero e); omega)
            have hnn := HLJ.out.nn
            have hnl := HLJ.out.fin.names
            simp only at hnn hnl
            have HNN := Lib.hid hnn
            clear hnn
            have HNM2 := Lib.hid HLJ.out.names
            clear kj hn hbs0 HN hne hne0 h62
            go_wp2_with (first
              | (with_reducible refine load_pG (by with_unfolding_all rfl) _ (by with_reducible rfl) w.heap.size (by first | (simp [Act.eval]; done) | simp [Act.eval, Act.put]) H4.out ?_)
              | (go_at_call 55; (with_reducible refine (KJ.out _ (HPT.out.below H4.out.below)).mono ?_)))
            rintro e w6 ⟨rfl, hb6⟩
            have H6 := Lib.hid (H4.out.call hb6)
            clear hb6
            go_wp2_with fail
            go_loopg [5] (s.names.length + 1) (fun kx v wr => ∃ k : Nat, v = .int .i64 (k : Int) ∧ k ≤ s.names.length ∧ s.names.length - k + 1 ≤ kx ∧ PF w wr w.heap.size (w.heap.size + 1) L pj ∧ Hid (∀ i, i < k → s.names[i]? ≠ some nm))
            case atStart => exact ⟨0, rfl, Nat.zero_le _, by omega, H6.out, Lib.hid (fun i hi => absurd hi (by omega))⟩
            case round =>
              obtain ⟨k, rfl, hk, hkx, hv, hnot⟩ := hrel
              have H7 := Lib.hid hv
              have c4 := hv.names
              clear hv
              by_cases hkn : k < s.names.length
              · obtain ⟨g, hg⟩ : ∃ g, pj.na = some ⟨g, 0, none⟩ := by
                  rcases HNM2.out.2 with ⟨hv, h0⟩ | ⟨g, cap, cur, hv, _⟩
                  · have := HNN.out; omega
                  · injection hv with hv _ _; exact ⟨g, hv⟩
                obtain ⟨t, ht⟩ : ∃ t, t = s.names[k] := ⟨_, rfl⟩
                have hcl : wr.cell? ⟨g, k, none⟩ = some (.string ⟨t.toArray⟩) := by
                  have h1 := HNM2.out
                  rw [hg] at h1
                  have h2 := h1.cells (g := g) rfl k (.string ⟨t.toArray⟩) (by rw [ht]; simp [strCells, List.getElem?_eq_getElem hkn])
                  have hadd : (⟨g, 0, none⟩ : Addr).add k = ⟨g, 0 + k, none⟩ := by unfold Addr.add; split <;> simp_all
                  rw [hadd, Nat.zero_add] at h2
                  have hgl : g < w.heap.size := by
                    obtain ⟨_, h3, _⟩ := rrow_kind h1 g rfl
                    exact h3
                  rw [H7.out.below.cell (p := ⟨g, k, none⟩) hgl]
                  exact h2
                rw [hg, HNN.out] at c4
                have HTK := Lib.hid ht
                have z1 : decide ((k : Int) < (s.names.length : Int)) = true := decide_eq_true (by omega)
                have i0 : (0 : Int) ≤ (k : Int) := by omega
                have i1 : (k : Int) < (s.names.length : Int) := by omega
                have hnl2 : s.names.length ≤ 1000 := by omega
                clear ht
                by_cases hte : t = nm
                · obtain ⟨a', m', hf, hbx⟩ := hbs1
                  have hmem : nm ∈ s.names := by rw [← hte, HTK.out]; exact List.getElem_mem hkn
                  have HM := Lib.hid (show nameR l s = .bad a' m' by rw [HN2.out, if_pos hmem, hf])
                  have hj1 : ((j - 1 : Nat) : Int) = (j : Int) - 1 := by have := HJP.out; omega
                  rw [hj1] at hbx
                  have HBX := Lib.hid hbx
                  have KST := Lib.hid (fun W => rfStop L pj ((j : Int) - 1) W)
                  have c1 := H7.out.i
                  rw [HIJ.out] at c1
                  rw [hte] at hcl
                  have hj1l := HJP.out
                  clear hf hbx hj1 hmem hnot HTK hte
                  go_wp2_with (first
                    | (with_reducible refine load_p (by with_reducible rfl) _ (by with_reducible rfl) w.heap.size (by first | (simp [Act.eval]; done) | simp [Act.eval, Act.put]) H7.out ?_)
                    | (go_at_call 32; (with_reducible refine (KST.out _).mono ?_)))
                  rintro e w8 ⟨rfl, hb8⟩
                  have H8 := Lib.hid (H7.out.call hb8)
                  clear hb8 c1
                  go_wp2_with (first
                    | (with_reducible refine store_r (by with_reducible rfl) _ _ (by with_reducible rfl) (w.heap.size + 1) (p' := stopX L pj ((j : Int) - 1)) (by first | (simp [Act.eval]; done) | simp [Act.eval, Act.put]) (by first | (simp [Act.eval]; done) | simp [Act.eval, Act.put]) H8.out ?_))
                  intro W2 h2 b2 _
                  go_wp2
                  refine ret_p2 (k := 2) (j := 3) Try.results108 h2 (by simp) (by simp; rfl) rfl ?_
                  rw [HM.out]
                  exact ⟨_, nm, rfl, HBX.out, (HST.out _).1, (HST.out _).2.1, (HST.out _).2.2, b2⟩
                · have zt : (t == nm) = false := by simp [hte]
                  have hnot2 := Lib.hid (show ∀ i, i < k + 1 → s.names[i]? ≠ some nm from fun i hi he => by
                    rcases Nat.lt_or_ge i k with h | h
                    · exact hnot.out i h he
                    · obtain rfl : i = k := by omega
                      rw [List.getElem?_eq_getElem hkn] at he
                      exact hte (by rw [HTK.out]; exact Option.some.inj he))
                  clear hnot HTK
                  go_wp2_with fail
                  go_roundg (s.names.length - k)
                  case measure => omega
                  case rel => exact ⟨k + 1, by go_num, hkn, by omega, H7.out, hnot2⟩
              · have z1 : decide ((k : Int) < (s.names.length : Int)) = false := decide_eq_false (by omega)
                rw [HNN.out] at c4
                have hnin : ¬ nm ∈ s.names := fun hm => by
                  obtain ⟨i, hi, he⟩ := List.getElem_of_mem hm
                  exact hnot.out i (by omega) (by rw [List.getElem?_eq_getElem hi, he])
                have HM := Lib.hid (show nameR l s = .ok nm { s with pos := j + 1 } by rw [HN2.out, if_neg hnin])
                have HLE := Lib.hid (HLJ.out.on 1 hlt)
                have KON := Lib.hid (fun W => rfOn L pj 1 W)
                clear hnin hnot
                go_wp2_with (first
                  | (with_reducible refine load_p (by with_reducible rfl) _ (by with_reducible rfl) w.heap.size (by first | (simp [Act.eval]; done) | simp [Act.eval, Act.put]) H7.out ?_)
                  | (go_at_call 56; (with_reducible refine (KON.out _).mono ?_)))
                rintro e w8 ⟨rfl, hb8⟩
                have H8 := Lib.hid (H7.out.call hb8)
                clear hb8
                go_wp2_with (first
                  | (with_reducible refine store_r (by with_reducible rfl) _ _ (by with_reducible rfl) (w.heap.size + 1) (p' := { pj with i := wrap64 (pj.i + 1) }) (by first | (simp [Act.eval]; done) | simp [Act.eval, Act.put]) (by first | (simp [Act.eval]; done) | simp [Act.eval, Act.put]) H8.out ?_))
                intro W2 h2 b2 _
                go_wp2
                refine ret_p2 (k := 2) (j := 3) Try.results108 h2 (by simp) (by simp; rfl) rfl ?_
                rw [HM.out]
                exact ⟨_, rfl, HLE.out.below b2, b2⟩
          · rw [if_pos (.inr h62)] at hn
            have z1 : (due l j != 62) = true := by simp [h62]
            obtain ⟨a', m', hf, hbx⟩ := hbs0
            have HM := Lib.hid (hn.trans hf)
            have HBX := Lib.hid hbx
            have KST := Lib.hid (fun W => rfStop L pj (j : Int) W)
            clear hn hf hbx HN hbs1 h62 hne
            generalize due l j = d at *
            have KJ := Lib.hid kj
            clear kj
            go_wp2_with (first
              | (with_reducible refine load_pG (by with_unfolding_all rfl) _ (by with_reducible rfl) w.heap.size (by first | (simp [Act.eval]; done) | simp [Act.eval, Act.put]) H4.out ?_)
              | (go_at_call 55; (with_reducible refine (KJ.out _ (HPT.out.below H4.out.below)).mono ?_)))
            rintro e w6 ⟨rfl, hb6⟩
            have H4 := Lib.hid (H4.out.call hb6)
            clear hb6
            have c1 := H4.out.i
            rw [HIJ.out] at c1
            go_wp2_with (first
              | (with_reducible refine load_p (by with_reducible rfl) _ (by with_reducible rfl) w.heap.size (by first | (simp [Act.eval]; done) | simp [Act.eval, Act.put]) H4.out ?_)
              | (go_at_call 32; (with_reducible refine (KST.out _).mono ?_)))
            rintro e w8 ⟨rfl, hb8⟩
            have H8 := Lib.hid (H4.out.call hb8)
            clear hb8 c1
            go_wp2_with (first
              | (with_reducible refine store_r (by with_reducible rfl) _ _ (by with_reducible rfl) (w.heap.size + 1) (p' := stopX L pj (j : Int)) (by first | (simp [Act.eval]; done) | simp [Act.eval, Act.put]) (by first | (simp [Act.eval]; done) | simp [Act.eval, Act.put]) H8.out ?_))
            intro W2 h2 b2 _
            go_wp2
            refine ret_p2 (k := 2) (j := 3) Try.results108 h2 (by simp) (by simp; rfl) rfl ?_
            rw [HM.out]
            exact ⟨_, nm, rfl, HBX.out, (HST.out _).1, (HST.out _).2.1, (HST.out _).2.2, b2⟩

end Go.Proofs.Ytoniccokohjenaa
