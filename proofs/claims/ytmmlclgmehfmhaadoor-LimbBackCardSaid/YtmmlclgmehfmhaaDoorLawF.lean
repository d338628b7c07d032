/-
  The walks of the laws of chapter 1: Back.
-/
import Derived.Test.YtmmlclgmehfmhaaDoorLawE
namespace Go.Proofs.YtmmlclgmehfmhaaDoor
open Go.RowKit

theorem bytesN_strD (l : List Nat) (h : ∀ x ∈ l, x < 10) : bytesN ⟨(strD l).toArray⟩ = l.map (48 + ·) := by
  unfold bytesN strD
  simp only [List.map_map]
  apply List.map_congr_left
  intro x hx
  have := h x hx
  simp only [Function.comp, UInt8.toNat_ofNat']
  omega
theorem okP_txt (x : Nat) : okP (bytesN ⟨(strD (txt x)).toArray⟩) = true := by
  rw [bytesN_strD _ (txt_lt x)]
  refine okP_good _ ?_ ?_
  · rw [List.length_map]
    unfold txt
    by_cases h : x = 0
    · rw [if_pos h]; decide
    · rw [if_neg h, List.length_reverse]
      intro h2
      exact h ((digs_nil 10 x (by omega)).1 (List.eq_nil_of_length_eq_zero h2))
  · intro j hj
    rw [List.length_map] at hj
    have := txt_lt x _ (List.getElem_mem hj)
    simp only [List.getD, List.getElem?_map, List.getElem?_eq_getElem hj, Option.map_some, Option.getD_some]
    omega
theorem dec_okP (x : Nat) : dec (digsOf (bytesN ⟨(strD (txt x)).toArray⟩)) = x := by
  rw [bytesN_strD _ (txt_lt x)]
  unfold digsOf
  rw [List.map_map]
  have e : List.map ((fun x => x - 48) ∘ fun x => 48 + x) (txt x) = txt x := by
    conv => rhs; rw [← List.map_id (txt x)]
    apply List.map_congr_left
    intro y _
    simp
  rw [e, dec_txt]
theorem txt_len (x : Nat) (h : x ≠ 0) : (txt x).length = (digs 10 x).length ∧ 1 ≤ (digs 10 x).length := by
  unfold txt
  rw [if_neg h, List.length_reverse]
  refine ⟨rfl, ?_⟩
  cases e : digs 10 x with
  | nil => exact absurd ((digs_nil 10 x (by omega)).1 e) h
  | cons => simp
theorem digits_is (A : Option Addr) (n cap : Nat) (l : List Nat) (d : Nat) (w : World) (hR : RdN .u32 w A n l) (hn : n ≤ 549755813888) (hl : ∀ x ∈ l, x < 4294967296) (htab : Tab10 w) (hd : (digs 10 (val 1000000000 l)).length = d) :
    Calls Tryd.prog 34 #[.slice A n cap] w fun e w' => e = .returned (.int .i64 d) ∧ Below w.heap.size w w' := by
  have h := digits_any A n cap l w hR hn hl htab
  rw [hd] at h
  exact h

set_option maxHeartbeats 2000000 in
set_option maxRecDepth 100000 in
theorem limbBack_walk (A0 A1 : Option Addr) (n0 cap0 n1 cap1 : Nat) (l0 l1 : List Nat) (u : Nat) (hu : u < 65536) (w : World) (HT : Tab10 w) (r0 : RdN .u32 w A0 n0 l0) (r1 : RdN .u32 w A1 n1 l1) (h0 : ∀ x ∈ l0, x < 4294967296) (h1 : ∀ x ∈ l1, x < 4294967296) :
    Calls Tryd.prog 13 #[.slice A0 n0 cap0, .slice A1 n1 cap1, .int .u16 u] w fun e w' => e = .returned (.bool true) ∧ Below w.heap.size w w' := by
  have HB := Below.refl w.heap.size w
  have q0 : n0 ≤ 40 → (digs 1000000000 (val 1000000000 l0)).length ≤ 41 := fun h => by have := digs_val_len l0 h0; have := r0.1; omega
  have q1 : n1 ≤ 40 → (digs 1000000000 (val 1000000000 l1)).length ≤ 41 := fun h => by have := digs_val_len l1 h1; have := r1.1; omega
  by_cases g0 : 40 < n0
  · skip
    go_enter Tryd.func13, Tryd.ntmps13
    have K1 := Lib.hid (shown_any w HT)
    go_wp2_with (go_at_call 14; refine K1.out.mono ?_)
    rintro e w1 ⟨rfl, hb1⟩
    replace r0 := r0.below hb1
    replace r1 := r1.below hb1
    replace HT := HT.below hb1
    replace HB := HB.trans (hb1.mono HB.size)
    have K2 := Lib.hid (great_yes A0 n0 cap0 w1 g0)
    go_wp2_with (go_at_call 15; refine K2.out.mono ?_; rintro e w2 ⟨rfl, rfl⟩)
    go_wp2
    go_ret
    exact ⟨rfl, HB⟩
  · skip
    by_cases g1 : 40 < n1
    · skip
      go_enter Tryd.func13, Tryd.ntmps13
      have K1 := Lib.hid (shown_any w HT)
      go_wp2_with (go_at_call 14; refine K1.out.mono ?_)
      rintro e w1 ⟨rfl, hb1⟩
      replace r0 := r0.below hb1
      replace r1 := r1.below hb1
      replace HT := HT.below hb1
      replace HB := HB.trans (hb1.mono HB.size)
      have K2 := Lib.hid (great_no A0 n0 cap0 w1 (by omega))
      go_wp2_with (go_at_call 15; refine K2.out.mono ?_; rintro e w2 ⟨rfl, rfl⟩)
      have K3 := Lib.hid (great_yes A1 n1 cap1 w1 g1)
      go_wp2_with (go_at_call 15; refine K3.out.mono ?_; rintro e w3 ⟨rfl, rfl⟩)
      go_wp2
      go_ret
      exact ⟨rfl, HB⟩
    · skip
      replace g0 : n0 ≤ 40 := by omega
      replace q0 := q0 g0
      have t0 := len_ten q0
      replace g1 : n1 ≤ 40 := by omega
      replace q1 := q1 g1
      have t1 := len_ten q1
      obtain ⟨k, hk⟩ : ∃ k, u % 300 = k := ⟨_, rfl⟩
      have hk3 : k ≤ 300 := by omega
      have hku : ((k : Nat) : Int) = (u : Int) % 300 := by omega
      have huB : (u : Int) ≤ 65535 := by omega
      have qs := len_mul q0 (len_pow k)
      have qd := len_mono (Nat.div_le_self (val 1000000000 l0) (val 1000000000 l1)) q0
      have qr := len_mono (Nat.mod_le (val 1000000000 l0) (val 1000000000 l1)) q0
      have qm := len_mul qd q1
      obtain ⟨sx, hsx⟩ : ∃ sx : ByteArray, sx = ⟨(strD (txt (val 1000000000 l0))).toArray⟩ := ⟨_, rfl⟩
      have hok : okP (bytesN sx) = true := by rw [hsx]; exact okP_txt _
      have hde : dec (digsOf (bytesN sx)) = val 1000000000 l0 := by rw [hsx]; exact dec_okP _
      have hsz : sx.size = (txt (val 1000000000 l0)).length := by rw [hsx, size_of_bytes, strD_len]
      have hsd : (strD (txt (val 1000000000 l0))).toArray = sx.data := by rw [hsx]
      have hp10 : 0 < 10 ^ k := Nat.pow_pos (by omega)
      have t0' := t0
      by_cases hX : val 1000000000 l0 = 0
      · skip
        have hs0 : sx.size = 1 := by rw [hsz, hX]; rfl
        have hs1 : ((sx.size : Int) == max 1 0) = true := by rw [hs0]; rfl
        have hs2 : sx.size ≤ 400 := by omega
        clear hs0
        have hdg : (digs 10 (val 1000000000 l0)).length = 0 := by rw [hX, digs_zero]; rfl
        by_cases hz : val 1000000000 l1 = 0
        · skip
          have HX_ := Lib.hid hX
          have HDG_ := Lib.hid hdg
          have HZ_ := Lib.hid hz
          have HOK_ := Lib.hid hok
          have HDE_ := Lib.hid hde
          have HSD_ := Lib.hid hsd
          have HKU_ := Lib.hid hku
          clear hsx hsz hk hX hdg hz hok hde hsd hku
          go_enter Tryd.func13, Tryd.ntmps13
          have K1 := Lib.hid (shown_any w HT)
          go_wp2_with (go_at_call 14; refine K1.out.mono ?_)
          rintro e w1 ⟨rfl, hb1⟩
          replace r0 := r0.below hb1
          replace r1 := r1.below hb1
          replace HT := HT.below hb1
          replace HB := HB.trans (hb1.mono HB.size)
          have K2 := Lib.hid (great_no A0 n0 cap0 w1 (by omega))
          go_wp2_with (go_at_call 15; refine K2.out.mono ?_; rintro e w2 ⟨rfl, rfl⟩)
          have K3 := Lib.hid (great_no A1 n1 cap1 w1 (by omega))
          go_wp2_with (go_at_call 15; refine K3.out.mono ?_; rintro e w3 ⟨rfl, rfl⟩)
          have K4 := Lib.hid (norm_any A0 n0 cap0 l0 w1 r0 (by omega) h0)
          go_wp2_with (go_at_call 23; refine K4.out.mono ?_)
          rintro e w4 ⟨vP, rfl, oP, hb4⟩
          replace r0 := r0.below hb4
          replace r1 := r1.below hb4
          replace HT := HT.below hb4
          replace HB := HB.trans (hb4.mono HB.size)
          obtain ⟨AP, cP, rfl, _, rP, _⟩ := oP.rd
          have K5 := Lib.hid (text_ok A0 n0 cap0 l0 sx w4 r0 (by omega) h0 HT HSD_.out)
          go_wp2_with (go_at_call 32; refine K5.out.mono ?_)
          rintro e w5 ⟨rfl, hb5⟩
          replace r0 := r0.below hb5
          replace r1 := r1.below hb5
          replace rP := rP.below hb5
          replace HT := HT.below hb5
          replace HB := HB.trans (hb5.mono HB.size)
          have K6 := Lib.hid (parse_ok sx w5 (by omega) HOK_.out)
          go_wp2_with (go_at_call 21; refine K6.out.mono ?_)
          rintro e w6 ⟨vQ, rfl, oQ, hb6⟩
          replace r0 := r0.below hb6
          replace r1 := r1.below hb6
          replace rP := rP.below hb6
          replace HT := HT.below hb6
          replace HB := HB.trans (hb6.mono HB.size)
          replace oQ := oQ.asList (show _ = digs 1000000000 (val 1000000000 l0) by rw [HDE_.out])
          obtain ⟨AQ, cQ, rfl, _, rQ, _⟩ := oQ.rd
          have ks := shift_any A0 n0 cap0 l0 k w6 r0 (by omega) h0 (by omega)
          rw [HKU_.out] at ks
          have K7 := Lib.hid (ks)
          go_wp2_with (go_at_call 37; refine K7.out.mono ?_)
          rintro e w7 ⟨vS, rfl, oS, hb7⟩
          replace r0 := r0.below hb7
          replace r1 := r1.below hb7
          replace rP := rP.below hb7
          replace rQ := rQ.below hb7
          replace HT := HT.below hb7
          replace HB := HB.trans (hb7.mono HB.size)
          obtain ⟨AS, cS, rfl, _, rS, _⟩ := oS.rd
          have kc := cut_any AS _ cS _ k w7 rS (by omega) (digs_u32 _) (by omega)
          rw [HKU_.out] at kc
          have K8 := Lib.hid (kc)
          go_wp2_with (go_at_call 38; refine K8.out.mono ?_)
          rintro e w8 ⟨vD, vE, rfl, oD, oE, hb8⟩
          replace r0 := r0.below hb8
          replace r1 := r1.below hb8
          replace rP := rP.below hb8
          replace rQ := rQ.below hb8
          replace rS := rS.below hb8
          replace HT := HT.below hb8
          replace HB := HB.trans (hb8.mono HB.size)
          replace oD := oD.asList (show _ = digs 1000000000 (val 1000000000 l0) by rw [vdig, Nat.mul_div_cancel _ hp10])
          replace oE := oE.asList (show _ = [] by rw [vdig, Nat.mul_mod_left, digs_zero])
          obtain ⟨AD, cD, rfl, _, rD, _⟩ := oD.rd
          obtain ⟨AE, cE, rfl, _, rE, _⟩ := oE.rd
          have K9 := Lib.hid (same_true _ _ _ cQ _ cP _ _ w8 rQ rP (by first | omega | decide) (by first | omega | decide) rfl)
          go_wp2_with (go_at_call 19; refine K9.out.mono ?_)
          rintro e w9 ⟨rfl, hb9⟩
          replace r0 := r0.below hb9
          replace r1 := r1.below hb9
          replace rP := rP.below hb9
          replace rQ := rQ.below hb9
          replace rS := rS.below hb9
          replace rD := rD.below hb9
          replace rE := rE.below hb9
          replace HT := HT.below hb9
          replace HB := HB.trans (hb9.mono HB.size)
          have K10 := Lib.hid (same_true _ _ _ cD _ cP _ _ w9 rD rP (by first | omega | decide) (by first | omega | decide) rfl)
          go_wp2_with (go_at_call 19; refine K10.out.mono ?_)
          rintro e w10 ⟨rfl, hb10⟩
          replace r0 := r0.below hb10
          replace r1 := r1.below hb10
          replace rP := rP.below hb10
          replace rQ := rQ.below hb10
          replace rS := rS.below hb10
          replace rD := rD.below hb10
          replace rE := rE.below hb10
          replace HT := HT.below hb10
          replace HB := HB.trans (hb10.mono HB.size)
          have K11 := Lib.hid (text_ok A0 n0 cap0 l0 sx w10 r0 (by omega) h0 HT HSD_.out)
          go_wp2_with (go_at_call 32; refine K11.out.mono ?_)
          rintro e w11 ⟨rfl, hb11⟩
          replace r0 := r0.below hb11
          replace r1 := r1.below hb11
          replace rP := rP.below hb11
          replace rQ := rQ.below hb11
          replace rS := rS.below hb11
          replace rD := rD.below hb11
          replace rE := rE.below hb11
          replace HT := HT.below hb11
          replace HB := HB.trans (hb11.mono HB.size)
          have K12 := Lib.hid (digits_is A0 n0 cap0 l0 0 w11 r0 (by omega) h0 HT HDG_.out)
          go_wp2_with (go_at_call 34; refine K12.out.mono ?_)
          rintro e w12 ⟨rfl, hb12⟩
          replace r0 := r0.below hb12
          replace r1 := r1.below hb12
          replace rP := rP.below hb12
          replace rQ := rQ.below hb12
          replace rS := rS.below hb12
          replace rD := rD.below hb12
          replace rE := rE.below hb12
          replace HT := HT.below hb12
          replace HB := HB.trans (hb12.mono HB.size)
          have K13 := Lib.hid (divmod_no A0 A1 n0 cap0 n1 cap1 l0 l1 w12 r0 r1 (by omega) (by omega) h0 h1 HZ_.out)
          go_wp2_with (go_at_call 16; refine K13.out.mono ?_)
          rintro e w13 ⟨rfl, hb13⟩
          replace r0 := r0.below hb13
          replace r1 := r1.below hb13
          replace rP := rP.below hb13
          replace rQ := rQ.below hb13
          replace rS := rS.below hb13
          replace rD := rD.below hb13
          replace rE := rE.below hb13
          replace HT := HT.below hb13
          replace HB := HB.trans (hb13.mono HB.size)
          have K14 := Lib.hid (cmp_is A1 none n1 cap1 0 0 l1 [] 0 w13 r1 (.none0 rfl rfl) (by omega) (by omega) h1 nil_u32 (by show cmpN _ 0 = 0; rw [cmpN_zero, if_pos HZ_.out]))
          go_wp2_with (go_at_call 26; refine K14.out.mono ?_)
          rintro e w14 ⟨rfl, hb14⟩
          replace r0 := r0.below hb14
          replace r1 := r1.below hb14
          replace rP := rP.below hb14
          replace rQ := rQ.below hb14
          replace rS := rS.below hb14
          replace rD := rD.below hb14
          replace rE := rE.below hb14
          replace HT := HT.below hb14
          replace HB := HB.trans (hb14.mono HB.size)
          go_wp2
          go_ret
          exact ⟨rfl, HB⟩
        · skip
          have hpos : 0 < val 1000000000 l1 := by omega
          have hlt := Nat.mod_lt (val 1000000000 l0) hpos
          have hdm : (val 1000000000 l0) / (val 1000000000 l1) * (val 1000000000 l1) + (val 1000000000 l0) % (val 1000000000 l1) = val 1000000000 l0 := Nat.div_add_mod' _ _
          have HX_ := Lib.hid hX
          have HDG_ := Lib.hid hdg
          have HZ_ := Lib.hid hz
          have HOK_ := Lib.hid hok
          have HDE_ := Lib.hid hde
          have HSD_ := Lib.hid hsd
          have HKU_ := Lib.hid hku
          have HDM_ := Lib.hid hdm
          clear hsx hsz hk hX hdg hz hok hde hsd hku hdm
          go_enter Tryd.func13, Tryd.ntmps13
          have K1 := Lib.hid (shown_any w HT)
          go_wp2_with (go_at_call 14; refine K1.out.mono ?_)
          rintro e w1 ⟨rfl, hb1⟩
          replace r0 := r0.below hb1
          replace r1 := r1.below hb1
          replace HT := HT.below hb1
          replace HB := HB.trans (hb1.mono HB.size)
          have K2 := Lib.hid (great_no A0 n0 cap0 w1 (by omega))
          go_wp2_with (go_at_call 15; refine K2.out.mono ?_; rintro e w2 ⟨rfl, rfl⟩)
          have K3 := Lib.hid (great_no A1 n1 cap1 w1 (by omega))
          go_wp2_with (go_at_call 15; refine K3.out.mono ?_; rintro e w3 ⟨rfl, rfl⟩)
          have K4 := Lib.hid (norm_any A0 n0 cap0 l0 w1 r0 (by omega) h0)
          go_wp2_with (go_at_call 23; refine K4.out.mono ?_)
          rintro e w4 ⟨vP, rfl, oP, hb4⟩
          replace r0 := r0.below hb4
          replace r1 := r1.below hb4
          replace HT := HT.below hb4
          replace HB := HB.trans (hb4.mono HB.size)
          obtain ⟨AP, cP, rfl, _, rP, _⟩ := oP.rd
          have K5 := Lib.hid (text_ok A0 n0 cap0 l0 sx w4 r0 (by omega) h0 HT HSD_.out)
          go_wp2_with (go_at_call 32; refine K5.out.mono ?_)
          rintro e w5 ⟨rfl, hb5⟩
          replace r0 := r0.below hb5
          replace r1 := r1.below hb5
          replace rP := rP.below hb5
          replace HT := HT.below hb5
          replace HB := HB.trans (hb5.mono HB.size)
          have K6 := Lib.hid (parse_ok sx w5 (by omega) HOK_.out)
          go_wp2_with (go_at_call 21; refine K6.out.mono ?_)
          rintro e w6 ⟨vQ, rfl, oQ, hb6⟩
          replace r0 := r0.below hb6
          replace r1 := r1.below hb6
          replace rP := rP.below hb6
          replace HT := HT.below hb6
          replace HB := HB.trans (hb6.mono HB.size)
          replace oQ := oQ.asList (show _ = digs 1000000000 (val 1000000000 l0) by rw [HDE_.out])
          obtain ⟨AQ, cQ, rfl, _, rQ, _⟩ := oQ.rd
          have ks := shift_any A0 n0 cap0 l0 k w6 r0 (by omega) h0 (by omega)
          rw [HKU_.out] at ks
          have K7 := Lib.hid (ks)
          go_wp2_with (go_at_call 37; refine K7.out.mono ?_)
          rintro e w7 ⟨vS, rfl, oS, hb7⟩
          replace r0 := r0.below hb7
          replace r1 := r1.below hb7
          replace rP := rP.below hb7
          replace rQ := rQ.below hb7
          replace HT := HT.below hb7
          replace HB := HB.trans (hb7.mono HB.size)
          obtain ⟨AS, cS, rfl, _, rS, _⟩ := oS.rd
          have kc := cut_any AS _ cS _ k w7 rS (by omega) (digs_u32 _) (by omega)
          rw [HKU_.out] at kc
          have K8 := Lib.hid (kc)
          go_wp2_with (go_at_call 38; refine K8.out.mono ?_)
          rintro e w8 ⟨vD, vE, rfl, oD, oE, hb8⟩
          replace r0 := r0.below hb8
          replace r1 := r1.below hb8
          replace rP := rP.below hb8
          replace rQ := rQ.below hb8
          replace rS := rS.below hb8
          replace HT := HT.below hb8
          replace HB := HB.trans (hb8.mono HB.size)
          replace oD := oD.asList (show _ = digs 1000000000 (val 1000000000 l0) by rw [vdig, Nat.mul_div_cancel _ hp10])
          replace oE := oE.asList (show _ = [] by rw [vdig, Nat.mul_mod_left, digs_zero])
          obtain ⟨AD, cD, rfl, _, rD, _⟩ := oD.rd
          obtain ⟨AE, cE, rfl, _, rE, _⟩ := oE.rd
          have K9 := Lib.hid (same_true _ _ _ cQ _ cP _ _ w8 rQ rP (by first | omega | decide) (by first | omega | decide) rfl)
          go_wp2_with (go_at_call 19; refine K9.out.mono ?_)
          rintro e w9 ⟨rfl, hb9⟩
          replace r0 := r0.below hb9
          replace r1 := r1.below hb9
          replace rP := rP.below hb9
          replace rQ := rQ.below hb9
          replace rS := rS.below hb9
          replace rD := rD.below hb9
          replace rE := rE.below hb9
          replace HT := HT.below hb9
          replace HB := HB.trans (hb9.mono HB.size)
          have K10 := Lib.hid (same_true _ _ _ cD _ cP _ _ w9 rD rP (by first | omega | decide) (by first | omega | decide) rfl)
          go_wp2_with (go_at_call 19; refine K10.out.mono ?_)
          rintro e w10 ⟨rfl, hb10⟩
          replace r0 := r0.below hb10
          replace r1 := r1.below hb10
          replace rP := rP.below hb10
          replace rQ := rQ.below hb10
          replace rS := rS.below hb10
          replace rD := rD.below hb10
          replace rE := rE.below hb10
          replace HT := HT.below hb10
          replace HB := HB.trans (hb10.mono HB.size)
          have K11 := Lib.hid (text_ok A0 n0 cap0 l0 sx w10 r0 (by omega) h0 HT HSD_.out)
          go_wp2_with (go_at_call 32; refine K11.out.mono ?_)
          rintro e w11 ⟨rfl, hb11⟩
          replace r0 := r0.below hb11
          replace r1 := r1.below hb11
          replace rP := rP.below hb11
          replace rQ := rQ.below hb11
          replace rS := rS.below hb11
          replace rD := rD.below hb11
          replace rE := rE.below hb11
          replace HT := HT.below hb11
          replace HB := HB.trans (hb11.mono HB.size)
          have K12 := Lib.hid (digits_is A0 n0 cap0 l0 0 w11 r0 (by omega) h0 HT HDG_.out)
          go_wp2_with (go_at_call 34; refine K12.out.mono ?_)
          rintro e w12 ⟨rfl, hb12⟩
          replace r0 := r0.below hb12
          replace r1 := r1.below hb12
          replace rP := rP.below hb12
          replace rQ := rQ.below hb12
          replace rS := rS.below hb12
          replace rD := rD.below hb12
          replace rE := rE.below hb12
          replace HT := HT.below hb12
          replace HB := HB.trans (hb12.mono HB.size)
          have K13 := Lib.hid (divmod_ok A0 A1 n0 cap0 n1 cap1 l0 l1 w12 r0 r1 (by omega) (by omega) h0 h1 hpos)
          go_wp2_with (go_at_call 16; refine K13.out.mono ?_)
          rintro e w13 ⟨vF, vG, rfl, oF, oG, hb13⟩
          replace r0 := r0.below hb13
          replace r1 := r1.below hb13
          replace rP := rP.below hb13
          replace rQ := rQ.below hb13
          replace rS := rS.below hb13
          replace rD := rD.below hb13
          replace rE := rE.below hb13
          replace HT := HT.below hb13
          replace HB := HB.trans (hb13.mono HB.size)
          obtain ⟨AF, cF, rfl, _, rF, _⟩ := oF.rd
          obtain ⟨AG, cG, rfl, _, rG, _⟩ := oG.rd
          have K14 := Lib.hid (cmp_is AG A1 _ cG n1 cap1 _ l1 (-1) w13 rG r1 (by omega) (by omega) (digs_u32 _) h1 (by rw [vdig]; exact cmpN_lt hlt))
          go_wp2_with (go_at_call 26; refine K14.out.mono ?_)
          rintro e w14 ⟨rfl, hb14⟩
          replace r0 := r0.below hb14
          replace r1 := r1.below hb14
          replace rP := rP.below hb14
          replace rQ := rQ.below hb14
          replace rS := rS.below hb14
          replace rD := rD.below hb14
          replace rE := rE.below hb14
          replace rF := rF.below hb14
          replace rG := rG.below hb14
          replace HT := HT.below hb14
          replace HB := HB.trans (hb14.mono HB.size)
          have K15 := Lib.hid (mul_any AF A1 _ cF n1 cap1 _ l1 w14 rF r1 (by omega) (by omega) (digs_u32 _) h1)
          go_wp2_with (go_at_call 35; refine K15.out.mono ?_)
          rintro e w15 ⟨vH, rfl, oH, hb15⟩
          replace r0 := r0.below hb15
          replace r1 := r1.below hb15
          replace rP := rP.below hb15
          replace rQ := rQ.below hb15
          replace rS := rS.below hb15
          replace rD := rD.below hb15
          replace rE := rE.below hb15
          replace rF := rF.below hb15
          replace rG := rG.below hb15
          replace HT := HT.below hb15
          replace HB := HB.trans (hb15.mono HB.size)
          replace oH := oH.asList (show _ = digs 1000000000 ((val 1000000000 l0) / (val 1000000000 l1) * (val 1000000000 l1)) by rw [vdig])
          obtain ⟨AH, cH, rfl, _, rH, _⟩ := oH.rd
          have K16 := Lib.hid (add_any AH AG _ cH _ cG _ _ w15 rH rG (by omega) (by omega) (digs_u32 _) (digs_u32 _))
          go_wp2_with (go_at_call 29; refine K16.out.mono ?_)
          rintro e w16 ⟨vI, rfl, oI, hb16⟩
          replace r0 := r0.below hb16
          replace r1 := r1.below hb16
          replace rP := rP.below hb16
          replace rQ := rQ.below hb16
          replace rS := rS.below hb16
          replace rD := rD.below hb16
          replace rE := rE.below hb16
          replace rF := rF.below hb16
          replace rG := rG.below hb16
          replace rH := rH.below hb16
          replace HT := HT.below hb16
          replace HB := HB.trans (hb16.mono HB.size)
          replace oI := oI.asList (show _ = digs 1000000000 (val 1000000000 l0) by rw [vdig, vdig, HDM_.out])
          obtain ⟨AI, cI, rfl, _, rI, _⟩ := oI.rd
          have K17 := Lib.hid (same_true _ _ _ cI _ cP _ _ w16 rI rP (by first | omega | decide) (by first | omega | decide) rfl)
          go_wp2_with (go_at_call 19; refine K17.out.mono ?_)
          rintro e w17 ⟨rfl, hb17⟩
          replace r0 := r0.below hb17
          replace r1 := r1.below hb17
          replace rP := rP.below hb17
          replace rQ := rQ.below hb17
          replace rS := rS.below hb17
          replace rD := rD.below hb17
          replace rE := rE.below hb17
          replace rF := rF.below hb17
          replace rG := rG.below hb17
          replace rH := rH.below hb17
          replace rI := rI.below hb17
          replace HT := HT.below hb17
          replace HB := HB.trans (hb17.mono HB.size)
          go_wp2
          go_ret
          exact ⟨rfl, HB⟩
      · skip
        obtain ⟨hl1, hl2⟩ := txt_len (val 1000000000 l0) hX
        have hdg : (digs 10 (val 1000000000 l0)).length = sx.size := by rw [hsz, hl1]
        have hs1 : 1 ≤ sx.size := by omega
        have hs2 : sx.size ≤ 400 := by omega
        have hs3 : ((sx.size : Int) == max 1 (sx.size : Int)) = true := by rw [Int.max_eq_right (by omega)]; simp
        clear hs1
        by_cases hz : val 1000000000 l1 = 0
        · skip
          have HX_ := Lib.hid hX
          have HDG_ := Lib.hid hdg
          have HZ_ := Lib.hid hz
          have HOK_ := Lib.hid hok
          have HDE_ := Lib.hid hde
          have HSD_ := Lib.hid hsd
          have HKU_ := Lib.hid hku
          clear hsx hsz hk hX hdg hz hok hde hsd hku hl1 hl2
          go_enter Tryd.func13, Tryd.ntmps13
          have K1 := Lib.hid (shown_any w HT)
          go_wp2_with (go_at_call 14; refine K1.out.mono ?_)
          rintro e w1 ⟨rfl, hb1⟩
          replace r0 := r0.below hb1
          replace r1 := r1.below hb1
          replace HT := HT.below hb1
          replace HB := HB.trans (hb1.mono HB.size)
          have K2 := Lib.hid (great_no A0 n0 cap0 w1 (by omega))
          go_wp2_with (go_at_call 15; refine K2.out.mono ?_; rintro e w2 ⟨rfl, rfl⟩)
          have K3 := Lib.hid (great_no A1 n1 cap1 w1 (by omega))
          go_wp2_with (go_at_call 15; refine K3.out.mono ?_; rintro e w3 ⟨rfl, rfl⟩)
          have K4 := Lib.hid (norm_any A0 n0 cap0 l0 w1 r0 (by omega) h0)
          go_wp2_with (go_at_call 23; refine K4.out.mono ?_)
          rintro e w4 ⟨vP, rfl, oP, hb4⟩
          replace r0 := r0.below hb4
          replace r1 := r1.below hb4
          replace HT := HT.below hb4
          replace HB := HB.trans (hb4.mono HB.size)
          obtain ⟨AP, cP, rfl, _, rP, _⟩ := oP.rd
          have K5 := Lib.hid (text_ok A0 n0 cap0 l0 sx w4 r0 (by omega) h0 HT HSD_.out)
          go_wp2_with (go_at_call 32; refine K5.out.mono ?_)
          rintro e w5 ⟨rfl, hb5⟩
          replace r0 := r0.below hb5
          replace r1 := r1.below hb5
          replace rP := rP.below hb5
          replace HT := HT.below hb5
          replace HB := HB.trans (hb5.mono HB.size)
          have K6 := Lib.hid (parse_ok sx w5 (by omega) HOK_.out)
          go_wp2_with (go_at_call 21; refine K6.out.mono ?_)
          rintro e w6 ⟨vQ, rfl, oQ, hb6⟩
          replace r0 := r0.below hb6
          replace r1 := r1.below hb6
          replace rP := rP.below hb6
          replace HT := HT.below hb6
          replace HB := HB.trans (hb6.mono HB.size)
          replace oQ := oQ.asList (show _ = digs 1000000000 (val 1000000000 l0) by rw [HDE_.out])
          obtain ⟨AQ, cQ, rfl, _, rQ, _⟩ := oQ.rd
          have ks := shift_any A0 n0 cap0 l0 k w6 r0 (by omega) h0 (by omega)
          rw [HKU_.out] at ks
          have K7 := Lib.hid (ks)
          go_wp2_with (go_at_call 37; refine K7.out.mono ?_)
          rintro e w7 ⟨vS, rfl, oS, hb7⟩
          replace r0 := r0.below hb7
          replace r1 := r1.below hb7
          replace rP := rP.below hb7
          replace rQ := rQ.below hb7
          replace HT := HT.below hb7
          replace HB := HB.trans (hb7.mono HB.size)
          obtain ⟨AS, cS, rfl, _, rS, _⟩ := oS.rd
          have kc := cut_any AS _ cS _ k w7 rS (by omega) (digs_u32 _) (by omega)
          rw [HKU_.out] at kc
          have K8 := Lib.hid (kc)
          go_wp2_with (go_at_call 38; refine K8.out.mono ?_)
          rintro e w8 ⟨vD, vE, rfl, oD, oE, hb8⟩
          replace r0 := r0.below hb8
          replace r1 := r1.below hb8
          replace rP := rP.below hb8
          replace rQ := rQ.below hb8
          replace rS := rS.below hb8
          replace HT := HT.below hb8
          replace HB := HB.trans (hb8.mono HB.size)
          replace oD := oD.asList (show _ = digs 1000000000 (val 1000000000 l0) by rw [vdig, Nat.mul_div_cancel _ hp10])
          replace oE := oE.asList (show _ = [] by rw [vdig, Nat.mul_mod_left, digs_zero])
          obtain ⟨AD, cD, rfl, _, rD, _⟩ := oD.rd
          obtain ⟨AE, cE, rfl, _, rE, _⟩ := oE.rd
          have K9 := Lib.hid (same_true _ _ _ cQ _ cP _ _ w8 rQ rP (by first | omega | decide) (by first | omega | decide) rfl)
          go_wp2_with (go_at_call 19; refine K9.out.mono ?_)
          rintro e w9 ⟨rfl, hb9⟩
          replace r0 := r0.below hb9
          replace r1 := r1.below hb9
          replace rP := rP.below hb9
          replace rQ := rQ.below hb9
          replace rS := rS.below hb9
          replace rD := rD.below hb9
          replace rE := rE.below hb9
          replace HT := HT.below hb9
          replace HB := HB.trans (hb9.mono HB.size)
          have K10 := Lib.hid (same_true _ _ _ cD _ cP _ _ w9 rD rP (by first | omega | decide) (by first | omega | decide) rfl)
          go_wp2_with (go_at_call 19; refine K10.out.mono ?_)
          rintro e w10 ⟨rfl, hb10⟩
          replace r0 := r0.below hb10
          replace r1 := r1.below hb10
          replace rP := rP.below hb10
          replace rQ := rQ.below hb10
          replace rS := rS.below hb10
          replace rD := rD.below hb10
          replace rE := rE.below hb10
          replace HT := HT.below hb10
          replace HB := HB.trans (hb10.mono HB.size)
          have K11 := Lib.hid (text_ok A0 n0 cap0 l0 sx w10 r0 (by omega) h0 HT HSD_.out)
          go_wp2_with (go_at_call 32; refine K11.out.mono ?_)
          rintro e w11 ⟨rfl, hb11⟩
          replace r0 := r0.below hb11
          replace r1 := r1.below hb11
          replace rP := rP.below hb11
          replace rQ := rQ.below hb11
          replace rS := rS.below hb11
          replace rD := rD.below hb11
          replace rE := rE.below hb11
          replace HT := HT.below hb11
          replace HB := HB.trans (hb11.mono HB.size)
          have K12 := Lib.hid (digits_is A0 n0 cap0 l0 sx.size w11 r0 (by omega) h0 HT HDG_.out)
          go_wp2_with (go_at_call 34; refine K12.out.mono ?_)
          rintro e w12 ⟨rfl, hb12⟩
          replace r0 := r0.below hb12
          replace r1 := r1.below hb12
          replace rP := rP.below hb12
          replace rQ := rQ.below hb12
          replace rS := rS.below hb12
          replace rD := rD.below hb12
          replace rE := rE.below hb12
          replace HT := HT.below hb12
          replace HB := HB.trans (hb12.mono HB.size)
          have K13 := Lib.hid (divmod_no A0 A1 n0 cap0 n1 cap1 l0 l1 w12 r0 r1 (by omega) (by omega) h0 h1 HZ_.out)
          go_wp2_with (go_at_call 16; refine K13.out.mono ?_)
          rintro e w13 ⟨rfl, hb13⟩
          replace r0 := r0.below hb13
          replace r1 := r1.below hb13
          replace rP := rP.below hb13
          replace rQ := rQ.below hb13
          replace rS := rS.below hb13
          replace rD := rD.below hb13
          replace rE := rE.below hb13
          replace HT := HT.below hb13
          replace HB := HB.trans (hb13.mono HB.size)
          have K14 := Lib.hid (cmp_is A1 none n1 cap1 0 0 l1 [] 0 w13 r1 (.none0 rfl rfl) (by omega) (by omega) h1 nil_u32 (by show cmpN _ 0 = 0; rw [cmpN_zero, if_pos HZ_.out]))
          go_wp2_with (go_at_call 26; refine K14.out.mono ?_)
          rintro e w14 ⟨rfl, hb14⟩
          replace r0 := r0.below hb14
          replace r1 := r1.below hb14
          replace rP := rP.below hb14
          replace rQ := rQ.below hb14
          replace rS := rS.below hb14
          replace rD := rD.below hb14
          replace rE := rE.below hb14
          replace HT := HT.below hb14
          replace HB := HB.trans (hb14.mono HB.size)
          go_wp2
          go_ret
          exact ⟨rfl, HB⟩
        · skip
          have hpos : 0 < val 1000000000 l1 := by omega
          have hlt := Nat.mod_lt (val 1000000000 l0) hpos
          have hdm : (val 1000000000 l0) / (val 1000000000 l1) * (val 1000000000 l1) + (val 1000000000 l0) % (val 1000000000 l1) = val 1000000000 l0 := Nat.div_add_mod' _ _
          have HX_ := Lib.hid hX
          have HDG_ := Lib.hid hdg
          have HZ_ := Lib.hid hz
          have HOK_ := Lib.hid hok
          have HDE_ := Lib.hid hde
          have HSD_ := Lib.hid hsd
          have HKU_ := Lib.hid hku
          have HDM_ := Lib.hid hdm
          clear hsx hsz hk hX hdg hz hok hde hsd hku hdm hl1 hl2
          go_enter Tryd.func13, Tryd.ntmps13
          have K1 := Lib.hid (shown_any w HT)
          go_wp2_with (go_at_call 14; refine K1.out.mono ?_)
          rintro e w1 ⟨rfl, hb1⟩
          replace r0 := r0.below hb1
          replace r1 := r1.below hb1
          replace HT := HT.below hb1
          replace HB := HB.trans (hb1.mono HB.size)
          have K2 := Lib.hid (great_no A0 n0 cap0 w1 (by omega))
          go_wp2_with (go_at_call 15; refine K2.out.mono ?_; rintro e w2 ⟨rfl, rfl⟩)
          have K3 := Lib.hid (great_no A1 n1 cap1 w1 (by omega))
          go_wp2_with (go_at_call 15; refine K3.out.mono ?_; rintro e w3 ⟨rfl, rfl⟩)
          have K4 := Lib.hid (norm_any A0 n0 cap0 l0 w1 r0 (by omega) h0)
          go_wp2_with (go_at_call 23; refine K4.out.mono ?_)
          rintro e w4 ⟨vP, rfl, oP, hb4⟩
          replace r0 := r0.below hb4
          replace r1 := r1.below hb4
          replace HT := HT.below hb4
          replace HB := HB.trans (hb4.mono HB.size)
          obtain ⟨AP, cP, rfl, _, rP, _⟩ := oP.rd
          have K5 := Lib.hid (text_ok A0 n0 cap0 l0 sx w4 r0 (by omega) h0 HT HSD_.out)
          go_wp2_with (go_at_call 32; refine K5.out.mono ?_)
          rintro e w5 ⟨rfl, hb5⟩
          replace r0 := r0.below hb5
          replace r1 := r1.below hb5
          replace rP := rP.below hb5
          replace HT := HT.below hb5
          replace HB := HB.trans (hb5.mono HB.size)
          have K6 := Lib.hid (parse_ok sx w5 (by omega) HOK_.out)
          go_wp2_with (go_at_call 21; refine K6.out.mono ?_)
          rintro e w6 ⟨vQ, rfl, oQ, hb6⟩
          replace r0 := r0.below hb6
          replace r1 := r1.below hb6
          replace rP := rP.below hb6
          replace HT := HT.below hb6
          replace HB := HB.trans (hb6.mono HB.size)
          replace oQ := oQ.asList (show _ = digs 1000000000 (val 1000000000 l0) by rw [HDE_.out])
          obtain ⟨AQ, cQ, rfl, _, rQ, _⟩ := oQ.rd
          have ks := shift_any A0 n0 cap0 l0 k w6 r0 (by omega) h0 (by omega)
          rw [HKU_.out] at ks
          have K7 := Lib.hid (ks)
          go_wp2_with (go_at_call 37; refine K7.out.mono ?_)
          rintro e w7 ⟨vS, rfl, oS, hb7⟩
          replace r0 := r0.below hb7
          replace r1 := r1.below hb7
          replace rP := rP.below hb7
          replace rQ := rQ.below hb7
          replace HT := HT.below hb7
          replace HB := HB.trans (hb7.mono HB.size)
          obtain ⟨AS, cS, rfl, _, rS, _⟩ := oS.rd
          have kc := cut_any AS _ cS _ k w7 rS (by omega) (digs_u32 _) (by omega)
          rw [HKU_.out] at kc
          have K8 := Lib.hid (kc)
          go_wp2_with (go_at_call 38; refine K8.out.mono ?_)
          rintro e w8 ⟨vD, vE, rfl, oD, oE, hb8⟩
          replace r0 := r0.below hb8
          replace r1 := r1.below hb8
          replace rP := rP.below hb8
          replace rQ := rQ.below hb8
          replace rS := rS.below hb8
          replace HT := HT.below hb8
          replace HB := HB.trans (hb8.mono HB.size)
          replace oD := oD.asList (show _ = digs 1000000000 (val 1000000000 l0) by rw [vdig, Nat.mul_div_cancel _ hp10])
          replace oE := oE.asList (show _ = [] by rw [vdig, Nat.mul_mod_left, digs_zero])
          obtain ⟨AD, cD, rfl, _, rD, _⟩ := oD.rd
          obtain ⟨AE, cE, rfl, _, rE, _⟩ := oE.rd
          have K9 := Lib.hid (same_true _ _ _ cQ _ cP _ _ w8 rQ rP (by first | omega | decide) (by first | omega | decide) rfl)
          go_wp2_with (go_at_call 19; refine K9.out.mono ?_)
          rintro e w9 ⟨rfl, hb9⟩
          replace r0 := r0.below hb9
          replace r1 := r1.below hb9
          replace rP := rP.below hb9
          replace rQ := rQ.below hb9
          replace rS := rS.below hb9
          replace rD := rD.below hb9
          replace rE := rE.below hb9
          replace HT := HT.below hb9
          replace HB := HB.trans (hb9.mono HB.size)
          have K10 := Lib.hid (same_true _ _ _ cD _ cP _ _ w9 rD rP (by first | omega | decide) (by first | omega | decide) rfl)
          go_wp2_with (go_at_call 19; refine K10.out.mono ?_)
          rintro e w10 ⟨rfl, hb10⟩
          replace r0 := r0.below hb10
          replace r1 := r1.below hb10
          replace rP := rP.below hb10
          replace rQ := rQ.below hb10
          replace rS := rS.below hb10
          replace rD := rD.below hb10
          replace rE := rE.below hb10
          replace HT := HT.below hb10
          replace HB := HB.trans (hb10.mono HB.size)
          have K11 := Lib.hid (text_ok A0 n0 cap0 l0 sx w10 r0 (by omega) h0 HT HSD_.out)
          go_wp2_with (go_at_call 32; refine K11.out.mono ?_)
          rintro e w11 ⟨rfl, hb11⟩
          replace r0 := r0.below hb11
          replace r1 := r1.below hb11
          replace rP := rP.below hb11
          replace rQ := rQ.below hb11
          replace rS := rS.below hb11
          replace rD := rD.below hb11
          replace rE := rE.below hb11
          replace HT := HT.below hb11
          replace HB := HB.trans (hb11.mono HB.size)
          have K12 := Lib.hid (digits_is A0 n0 cap0 l0 sx.size w11 r0 (by omega) h0 HT HDG_.out)
          go_wp2_with (go_at_call 34; refine K12.out.mono ?_)
          rintro e w12 ⟨rfl, hb12⟩
          replace r0 := r0.below hb12
          replace r1 := r1.below hb12
          replace rP := rP.below hb12
          replace rQ := rQ.below hb12
          replace rS := rS.below hb12
          replace rD := rD.below hb12
          replace rE := rE.below hb12
          replace HT := HT.below hb12
          replace HB := HB.trans (hb12.mono HB.size)
          have K13 := Lib.hid (divmod_ok A0 A1 n0 cap0 n1 cap1 l0 l1 w12 r0 r1 (by omega) (by omega) h0 h1 hpos)
          go_wp2_with (go_at_call 16; refine K13.out.mono ?_)
          rintro e w13 ⟨vF, vG, rfl, oF, oG, hb13⟩
          replace r0 := r0.below hb13
          replace r1 := r1.below hb13
          replace rP := rP.below hb13
          replace rQ := rQ.below hb13
          replace rS := rS.below hb13
          replace rD := rD.below hb13
          replace rE := rE.below hb13
          replace HT := HT.below hb13
          replace HB := HB.trans (hb13.mono HB.size)
          obtain ⟨AF, cF, rfl, _, rF, _⟩ := oF.rd
          obtain ⟨AG, cG, rfl, _, rG, _⟩ := oG.rd
          have K14 := Lib.hid (cmp_is AG A1 _ cG n1 cap1 _ l1 (-1) w13 rG r1 (by omega) (by omega) (digs_u32 _) h1 (by rw [vdig]; exact cmpN_lt hlt))
          go_wp2_with (go_at_call 26; refine K14.out.mono ?_)
          rintro e w14 ⟨rfl, hb14⟩
          replace r0 := r0.below hb14
          replace r1 := r1.below hb14
          replace rP := rP.below hb14
          replace rQ := rQ.below hb14
          replace rS := rS.below hb14
          replace rD := rD.below hb14
          replace rE := rE.below hb14
          replace rF := rF.below hb14
          replace rG := rG.below hb14
          replace HT := HT.below hb14
          replace HB := HB.trans (hb14.mono HB.size)
          have K15 := Lib.hid (mul_any AF A1 _ cF n1 cap1 _ l1 w14 rF r1 (by omega) (by omega) (digs_u32 _) h1)
          go_wp2_with (go_at_call 35; refine K15.out.mono ?_)
          rintro e w15 ⟨vH, rfl, oH, hb15⟩
          replace r0 := r0.below hb15
          replace r1 := r1.below hb15
          replace rP := rP.below hb15
          replace rQ := rQ.below hb15
          replace rS := rS.below hb15
          replace rD := rD.below hb15
          replace rE := rE.below hb15
          replace rF := rF.below hb15
          replace rG := rG.below hb15
          replace HT := HT.below hb15
          replace HB := HB.trans (hb15.mono HB.size)
          replace oH := oH.asList (show _ = digs 1000000000 ((val 1000000000 l0) / (val 1000000000 l1) * (val 1000000000 l1)) by rw [vdig])
          obtain ⟨AH, cH, rfl, _, rH, _⟩ := oH.rd
          have K16 := Lib.hid (add_any AH AG _ cH _ cG _ _ w15 rH rG (by omega) (by omega) (digs_u32 _) (digs_u32 _))
          go_wp2_with (go_at_call 29; refine K16.out.mono ?_)
          rintro e w16 ⟨vI, rfl, oI, hb16⟩
          replace r0 := r0.below hb16
          replace r1 := r1.below hb16
          replace rP := rP.below hb16
          replace rQ := rQ.below hb16
          replace rS := rS.below hb16
          replace rD := rD.below hb16
          replace rE := rE.below hb16
          replace rF := rF.below hb16
          replace rG := rG.below hb16
          replace rH := rH.below hb16
          replace HT := HT.below hb16
          replace HB := HB.trans (hb16.mono HB.size)
          replace oI := oI.asList (show _ = digs 1000000000 (val 1000000000 l0) by rw [vdig, vdig, HDM_.out])
          obtain ⟨AI, cI, rfl, _, rI, _⟩ := oI.rd
          have K17 := Lib.hid (same_true _ _ _ cI _ cP _ _ w16 rI rP (by first | omega | decide) (by first | omega | decide) rfl)
          go_wp2_with (go_at_call 19; refine K17.out.mono ?_)
          rintro e w17 ⟨rfl, hb17⟩
          replace r0 := r0.below hb17
          replace r1 := r1.below hb17
          replace rP := rP.below hb17
          replace rQ := rQ.below hb17
          replace rS := rS.below hb17
          replace rD := rD.below hb17
          replace rE := rE.below hb17
          replace rF := rF.below hb17
          replace rG := rG.below hb17
          replace rH := rH.below hb17
          replace rI := rI.below hb17
          replace HT := HT.below hb17
          replace HB := HB.trans (hb17.mono HB.size)
          go_wp2
          go_ret
          exact ⟨rfl, HB⟩
end Go.Proofs.YtmmlclgmehfmhaaDoor
