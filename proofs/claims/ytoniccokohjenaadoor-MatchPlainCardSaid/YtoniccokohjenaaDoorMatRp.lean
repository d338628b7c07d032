/-
  The walk of match's Replace (chapter 19).
-/
import Derived.Test.YtoniccokohjenaaDoorMatAl
import Derived.Test.YtoniccokohjenaaDoorMatPl
import Derived.Test.YtoniccokohjenaaDoorUtfI
namespace Go.Proofs.YtoniccokohjenaaDoor
open Go.RowKit

/-- Replace's answer -/
def replV (p t f y : List UInt8) : List UInt8 × Nat :=
  let r := allV p t f
  if r.2.2 ≠ 0 then ([], r.2.2) else (replF (explode t) y (r.1.map fun h => (h.a, h.b)) 0, 0)
/-- parts that rise -/
def RiseA (n : Nat) : Nat → List Mh → Prop
  | at_, [] => at_ ≤ n
  | at_, h :: r => at_ ≤ h.a ∧ h.a ≤ h.b ∧ h.b ≤ n ∧ RiseA n h.b r
theorem RiseA.le {n : Nat} : ∀ {at_ : Nat} {r : List Mh}, RiseA n at_ r → at_ ≤ n
  | _, [], h => h
  | _, _ :: _, h => by have := h.1; have := h.2.1; have := h.2.2.1; omega
theorem rise_a {n G : Nat} : ∀ (r : List Mh) (lo at_ : Nat), RiseL n G lo r → at_ ≤ lo → at_ ≤ n → RiseA n at_ r
  | [], _, _, _, _, h => h
  | h :: r, lo, at_, hr, h1, _ => ⟨Nat.le_trans h1 hr.1, hr.2.1.ab, hr.2.1.bn, rise_a r _ _ hr.2.2 (by omega) hr.2.1.bn⟩
theorem all_len (m : Md) (l : List Int) (P : List Stp) (G : Nat) : ∀ (f i : Nat) (T : Nat → Bool), (allF m l P G f i T).length ≤ f
  | 0, _, _ => Nat.le_refl _
  | f + 1, i, T => by
    have ih := all_len m l P G f
    rw [allF]
    split
    · exact Nat.zero_le _
    split
    · have := ih (i + 1) (by assumption); omega
    · split
      · split
        · rw [List.length_cons]; have := ih (max (by assumption) (i + 1)) (fun _ => false); omega
        · simp
      · rename_i e M _ _ _; have := ih (max e (i + 1)) (fun _ => false); omega
/-- what is known of All's matches -/
theorem allV_rise (p t f : List UInt8) : RiseA (explode t).length 0 (allV p t f).1 ∧ (allV p t f).1.length ≤ (explode t).length + 1 := by
  unfold allV
  cases readF md0 f with
  | none => exact ⟨Nat.zero_le _, Nat.zero_le _⟩
  | some m =>
    simp only
    split
    · exact ⟨Nat.zero_le _, Nat.zero_le _⟩
    · rename_i h0
      split
      · exact ⟨Nat.zero_le _, Nat.zero_le _⟩
      · have hp : parseL m.free (explode p) = ((parseV p m.free).1, (parseV p m.free).2.1, (parseV p m.free).2.2.1, (parseV p m.free).2.2.2) := rfl
        have hs := (parse_sound hp).2.1 (by simpa using h0)
        exact ⟨rise_a _ _ _ (all_rise (l := explode t) (m := m) hs.1 (Nat.le_refl _) _ 0 _) (Nat.le_refl _) (Nat.zero_le _), all_len _ _ _ _ _ _ _⟩
theorem part_at {l : List UInt8} {i k : Nat} (hi : i ≤ (explode l).length) (hk : k ≤ (explode l).length) : part l (i : Int) (k : Int) = allB (((explode l).drop i).take (k - i)) := by
  have w1 : ∀ j : Nat, j ≤ (explode l).length → within (j : Int) (explode l).length = j := fun j hj => by
    unfold within
    rw [if_neg (by omega)]
    split <;> omega
  unfold part
  rw [w1 i hi, w1 k hk]
/-- a match's cells -/
theorem mhs_at : ∀ (zs : List Zh) (i : Nat) (z : Zh), zs[i]? = some z → ∀ j v, (mhCells z)[j]? = some v → (mhsCells zs)[i * 4 + j]? = some v
  | [], i, z, h, _, _, _ => by simp at h
  | a :: r, 0, z, h, j, v, hv => by
    obtain rfl : a = z := by simpa using h
    have hj := (List.getElem?_eq_some_iff.1 hv).1
    show (mhCells a ++ mhsCells r)[0 * 4 + j]? = some v
    rw [Nat.zero_mul, Nat.zero_add, List.getElem?_append_left hj]; exact hv
  | a :: r, i + 1, z, h, j, v, hv => by
    have ih := mhs_at r i z (by simpa using h) j v hv
    show (mhCells a ++ mhsCells r)[(i + 1) * 4 + j]? = some v
    have hl : (mhCells a).length = 4 := rfl
    rw [List.getElem?_append_right (by omega), ← ih]
    congr 1; omega
theorem MsV.at {B : Nat} {W : World} {ns : List (List UInt8)} {A : Option Addr} {n cap : Nat} {out : List Zh} (h : MsV B W ns (.slice A n cap) out) (hne : out ≠ []) : ∃ q, A = some ⟨q, 0, none⟩ ∧ ∀ i z, out[i]? = some z → W.rangeAt q (i * 4) (mhCells z) := by
  rcases h.own.2 with ⟨_, h0⟩ | ⟨q, cap', cur, hv, _, hh, _, _, _, h4⟩
  · exact absurd (List.length_eq_zero_iff.1 h0) hne
  · injection hv with e1 _ _
    refine ⟨q, e1, fun i z hz j v hj => ?_⟩
    rw [Lib.cell_of_heap hh]
    have h5 := mhs_at out i z hz j v hj
    rw [← h4, List.getElem?_take] at h5
    split at h5
    · rw [← Array.getElem?_toList]; exact h5
    · cases h5

set_option maxHeartbeats 4000000 in
set_option maxRecDepth 100000 in
theorem mtReplace_any (p t f y : ByteArray) (w : World) (hp : p.size ≤ 1000000) (ht : t.size ≤ 1000) (hy : y.size ≤ 1100000) :
    Calls Tryd.prog 8 #[.string p, .string t, .string f, .string y] w (RetE (.tuple #[.string ⟨(replV p.data.toList t.data.toList f.data.toList y.data.toList).1.toArray⟩, .int .i64 ((replV p.data.toList t.data.toList f.data.toList y.data.toList).2 : Int)]) fun w' => Below w.heap.size w w') := by
  have KA := Lib.hid (mtAll_any p t f w hp ht)
  have KS := Lib.hid (fun (i k : Nat) (hi : i ≤ (explode t.data.toList).length) (hk : k ≤ (explode t.data.toList).length) W => part_at hi hk ▸ utfSlice_any t (i : Int) (k : Int) W (by omega))
  have KE := Lib.hid (fun (i : Nat) W => utfSlice_any t (i : Int) (t.size : Int) W (by omega))
  have hrise := allV_rise p.data.toList t.data.toList f.data.toList
  have hlen := explode_len t.data.toList
  have hsz := Lib.size_eq t
  have hpe : ∀ i : Nat, i ≤ (explode t.data.toList).length → part t.data.toList (i : Int) (t.size : Int) = allB ((explode t.data.toList).drop i) := fun i hi => by
    have w1 : within (i : Int) (explode t.data.toList).length = i := by unfold within; rw [if_neg (by omega)]; split <;> omega
    have w2 : within (t.size : Int) (explode t.data.toList).length = (explode t.data.toList).length := by unfold within; rw [if_neg (by omega)]; split <;> omega
    unfold part
    rw [w1, w2, List.take_of_length_le (by rw [List.length_drop]; omega)]
  have HPE := Lib.hid hpe
  obtain ⟨RV, hRV⟩ : ∃ r, r = replV p.data.toList t.data.toList f.data.toList y.data.toList := ⟨_, rfl⟩
  rw [← hRV]
  unfold replV at hRV
  generalize allV p.data.toList t.data.toList f.data.toList = r at *
  generalize explode t.data.toList = l at *
  obtain ⟨ms, ns, er⟩ := r
  simp only at hRV hrise
  have HRV := Lib.hid hRV
  have HRI := Lib.hid hrise
  have hln : l.length ≤ 1000 := by omega
  have HLN := Lib.hid hln
  clear hRV hrise hlen hsz hpe hln
  by_cases he : er = 0
  · subst he
    have HRS := Lib.hid (show RV = (replF l y.data.toList (ms.map fun h => (h.a, h.b)) 0, 0) by rw [HRV.out, if_neg (fun h => h rfl)])
    go_enter Tryd.func8, Tryd.ntmps8
    go_wp2_with (go_at_call 7; with_reducible refine (KA.out).mono ?_)
    rintro e w1 ⟨ov, out, rfl, hb1, hmap, hms⟩
    obtain ⟨OA, ocap, rfl⟩ := rowns_slice hms.own
    obtain ⟨n, hn⟩ : ∃ n, n = out.length := ⟨_, rfl⟩
    have hbb : Below w1.heap.size w1 (w1.alloc (.cells #[.pointer none, .slice none 0 0] 66)) := (Below.refl _ w1).alloc (Nat.le_refl _) _
    have HB0 := Lib.hid hb1
    have HMS := Lib.hid hms
    have HN := Lib.hid hn
    have HMP := Lib.hid hmap
    have hnl : n ≤ 1001 := by have h1 := HRI.out.2; have h2 := congrArg List.length hmap; rw [List.length_map] at h2; simp only at h2; have := HLN.out; omega
    have HBI := Lib.hid (Lib.IsBuilderF.of (Lib.fresh_isBuilder 66 5 w1))
    have HBB := Lib.hid hbb
    rw [← hn]
    clear hb1 hms hmap hbb hn
    simp only
    go_wp2
    go_loopg [13, 28] (n + 1) (fun kx v13 v28 wr => ∃ (k at_ : Nat) (acc : List UInt8), v28 = .int .i64 (k : Int) ∧ v13 = .int .i64 (at_ : Int) ∧ k ≤ n ∧ n - k < kx ∧ Lib.IsBuilderF 66 5 w1.heap.size w1.heap.size (Lib.byteCells acc) wr ∧ Below w1.heap.size w1 wr ∧ w1.heap.size < wr.heap.size ∧ Hid (acc.length ≤ k * 1110000) ∧ Hid (RiseA l.length at_ (ms.drop k)) ∧ Hid (RV.1 = acc ++ replF l y.data.toList ((ms.drop k).map fun h => (h.a, h.b)) at_))
    case atStart => exact ⟨0, 0, [], by go_num, by go_num, Nat.zero_le _, by omega, HBI.out, HBB.out, by rw [World.size_alloc]; exact Nat.lt_succ_self _, Nat.zero_le _, HRI.out.1, by show RV.1 = _; rw [HRS.out]; rfl⟩
    case round =>
      clear HBI HBB
      obtain ⟨k, at_, acc, rfl, rfl, hk, hkx, hI, hb, hws, hal, hri, heq⟩ := hrel
      have HI := Lib.hid hI
      have hbs := hb.size
      have HB := Lib.hid hb
      have hatn := hri.out.le
      have hlb : (Lib.byteCells acc).length = acc.length := Lib.byteCells_length _
      have HLB := Lib.hid hlb
      have hac : acc.length ≤ 1111110000 := by have := hal.out; omega
      have HAL := Lib.hid hal.out
      clear hI hb hlb
      by_cases hlt : k < n
      · have z2 : decide (k < n) = true := decide_eq_true hlt
        have hko : k < out.length := by rw [← HN.out]; exact hlt
        obtain ⟨z, hz⟩ : ∃ z, out[k]? = some z := ⟨_, List.getElem?_eq_getElem hko⟩
        obtain ⟨q, rfl, hat⟩ := (HMS.out.below HB.out).at (fun e => by rw [e] at hko; cases hko)
        have hmk : ms[k]? = some z.1 := by
          have hm : out.map Prod.fst = ms := HMP.out
          rw [← hm, List.getElem?_map, hz]; rfl
        have hdr : ms.drop k = z.1 :: ms.drop (k + 1) := by
          have hl := (List.getElem?_eq_some_iff.1 hmk).1
          rw [List.drop_eq_getElem_cons hl, (List.getElem?_eq_some_iff.1 hmk).2]
        have hri' := hri.out
        rw [hdr] at hri'
        obtain ⟨h1, h2, h3, h4⟩ := hri'
        have hrg := hat k z hz
        have hzr := HMS.out.rows z (List.mem_of_getElem? hz)
        obtain ⟨⟨ma, mb, mM⟩, gv, cv⟩ := z
        obtain ⟨GA, gcap, hgv⟩ := rowns_slice hzr.1
        obtain ⟨CA, ccap, hcv⟩ := rowns_slice hzr.2
        simp only at hgv hcv
        subst hgv hcv
        clear hzr
        simp only at h1 h2 h3 h4
        have r0 := hrg 0 _ rfl
        have r1 := hrg 1 _ rfl
        have r2 := hrg 2 _ rfl
        have r3 := hrg 3 _ rfl
        rw [Nat.add_zero] at r0
        simp only at r0 r1 r2 r3
        have y0 : (0 : Int) ≤ (k : Int) := by omega
        have y1 : (k : Int) < (n : Int) := by omega
        have HEQ := Lib.hid (show RV.1 = (acc ++ allB ((l.drop at_).take (ma - at_)) ++ y.data.toList) ++ replF l y.data.toList ((ms.drop (k + 1)).map fun h => (h.a, h.b)) mb by
          rw [heq.out, hdr]
          show acc ++ (allB _ ++ _ ++ _) = _
          simp only [List.append_assoc])
        obtain ⟨W2, hW2⟩ : ∃ W, W = wr.alloc (.cells #[.int .i64 (ma : Int), .int .i64 (mb : Int), .slice GA ns.length gcap, .slice CA ns.length ccap] TMh) := ⟨_, rfl⟩
        have hh2 : W2.heap[wr.heap.size]? = some (.cells #[.int .i64 (ma : Int), .int .i64 (mb : Int), .slice GA ns.length gcap, .slice CA ns.length ccap] TMh (0, 0)) := by rw [hW2]; exact Go.heap_alloc_new wr _
        have hal2 : Below wr.heap.size wr W2 := by rw [hW2]; exact (Below.refl _ wr).alloc (Nat.le_refl _) _
        have HI2 := Lib.hid (bld_below HI.out hal2)
        have HB2 := Lib.hid (HB.out.trans (hal2.mono HB.out.size))
        have t0 : W2.cell? ⟨wr.heap.size, 0, none⟩ = some (.int .i64 (ma : Int)) := by rw [Lib.cell_of_heap hh2]; rfl
        have t1 : W2.cell? ⟨wr.heap.size, 1, none⟩ = some (.int .i64 (mb : Int)) := by rw [Lib.cell_of_heap hh2]; rfl
        have HH2 := Lib.hid hh2
        have HR4 := Lib.hid h4
        have hpl : (allB ((l.drop at_).take (ma - at_))).length ≤ 4000 := by
          have := allB_len ((l.drop at_).take (ma - at_))
          have h5 : ((l.drop at_).take (ma - at_)).length ≤ l.length := by rw [List.length_take, List.length_drop]; omega
          have := HLN.out; omega
        have KS2 := Lib.hid (fun W => KS.out at_ ma hatn (by omega) W)
        generalize allB ((l.drop at_).take (ma - at_)) = ap at *
        have HPL := Lib.hid hpl
        have HNX := Lib.hid (show mb ≤ l.length by omega)
        clear h1 h2 h3 h4 hrg hat hmk hdr hri heq hz hko hh2 hal2 hpl hatn
        go_upto_region 9 with fail
        rw [← hW2]
        clear hW2 r0 r1 r2 r3
        go_wp2_with (go_at_call 19; refine (KS2.out _).mono ?_)
        rintro e w3 ⟨rfl, hb3⟩
        have HI3 := Lib.hid (bld_below HI2.out hb3)
        have HB3 := Lib.hid (HB2.out.trans (hb3.mono HB2.out.size))
        have HH3 := Lib.hid (heap_call HH2.out hb3)
        have hs3 : w1.heap.size ≤ w3.heap.size := HB3.out.size
        clear hb3 t0 t1
        go_wp2_with (go_at_call 18; refine (bld_writeString w1.heap.size w1.heap.size _ ⟨ap.toArray⟩ _ HI3.out (by rw [HLB.out]; have := HPL.out; simp [ByteArray.size]; omega) hs3).mono ?_)
        rintro e w4 ⟨rfl, h4, hb4, ko4⟩
        have HI4 := Lib.hid (show Lib.IsBuilderF 66 5 w1.heap.size w1.heap.size (Lib.byteCells (acc ++ ap)) w4 by rw [Lib.byteCells_append]; exact .inr h4)
        have HB4 := Lib.hid (HB3.out.trans hb4)
        have HH4 := Lib.hid (ko4 _ _ HH3.out (fun e => by injection e with e; omega) (fun c fz e => by injection e with _ e _; exact absurd e (by decide)))
        have hs4 : w1.heap.size ≤ w4.heap.size := HB4.out.size
        clear h4 hb4 ko4
        have hlb2 : (Lib.byteCells (acc ++ ap)).length ≤ 1111114000 := by rw [Lib.byteCells_length, List.length_append]; have := HPL.out; omega
        have HLB2 := Lib.hid hlb2
        clear hlb2
        go_wp2_with (go_at_call 18; refine (bld_writeString w1.heap.size w1.heap.size _ y _ HI4.out (by have := HLB2.out; omega) hs4).mono ?_)
        rintro e w5 ⟨rfl, h5, hb5, ko5⟩
        have HI5 := Lib.hid (show Lib.IsBuilderF 66 5 w1.heap.size w1.heap.size (Lib.byteCells (acc ++ ap ++ y.data.toList)) w5 by rw [Lib.byteCells_append]; exact .inr h5)
        have HB5 := Lib.hid (HB4.out.trans hb5)
        have hh5 := ko5 _ _ HH4.out (fun e => by injection e with e; omega) (fun c fz e => by injection e with _ e _; exact absurd e (by decide))
        have t1 : w5.cell? ⟨wr.heap.size, 1, none⟩ = some (.int .i64 (mb : Int)) := by rw [Lib.cell_of_heap hh5]; rfl
        have hs5 : w1.heap.size < w5.heap.size := Nat.lt_of_lt_of_le hws (Nat.le_of_lt (Array.getElem?_eq_some_iff.1 hh5).1)
        clear h5 hb5 ko5 hh5
        have hk2 : k ≤ 2000 := by omega
        go_wp2_with fail
        go_roundg (n - k)
        case measure => omega
        case rel => exact ⟨k + 1, mb, _, by go_num, rfl, by omega, by omega, HI5.out, HB5.out, hs5, by
          show (acc ++ ap ++ y.data.toList).length ≤ (k + 1) * 1110000
          rw [List.length_append, List.length_append, Nat.add_mul]
          have := HPL.out
          have := HAL.out
          have : y.data.toList.length = y.size := by rw [Lib.size_eq]
          omega, HR4.out, HEQ.out⟩
      · have z2 : decide (k < n) = false := decide_eq_false hlt
        have hdn : ms.drop k = [] := by
          have h2 := congrArg List.length HMP.out
          rw [List.length_map, ← HN.out] at h2
          exact List.drop_eq_nil_of_le (by omega)
        have HEQ := Lib.hid (show RV.1 = acc ++ allB (l.drop at_) by rw [heq.out, hdn]; rfl)
        have KE2 := Lib.hid (fun W => KE.out at_ W)
        have HP2 := Lib.hid (HPE.out at_ hatn)
        have hpl : (allB (l.drop at_)).length ≤ 4000 := by
          have := allB_len (l.drop at_)
          rw [List.length_drop] at this
          have := HLN.out; omega
        have HPL := Lib.hid hpl
        clear hdn hri heq hatn hpl hal
        rw [HP2.out] at KE2
        generalize allB (l.drop at_) = ap at *
        go_wp2_with (go_at_call 19; refine (KE2.out _).mono ?_)
        rintro e w3 ⟨rfl, hb3⟩
        have HI3 := Lib.hid (bld_below HI.out hb3)
        have HB3 := Lib.hid (HB.out.trans (hb3.mono HB.out.size))
        have hs3 : w1.heap.size ≤ w3.heap.size := HB3.out.size
        clear hb3
        go_wp2_with (go_at_call 18; refine (bld_writeString w1.heap.size w1.heap.size _ ⟨ap.toArray⟩ _ HI3.out (by rw [HLB.out]; have := HPL.out; simp [ByteArray.size]; omega) hs3).mono ?_)
        rintro e w4 ⟨rfl, h4, hb4, _⟩
        have HI4 := Lib.hid (show Lib.IsBuilderF 66 5 w1.heap.size w1.heap.size (Lib.byteCells (acc ++ ap)) w4 by rw [Lib.byteCells_append]; exact .inr h4)
        have HB4 := Lib.hid (HB3.out.trans hb4)
        have hs4 : w1.heap.size ≤ w4.heap.size := HB4.out.size
        clear h4 hb4
        go_wp2_with (go_at_call 20; refine (Tryd.Builder_String_any_k w1.heap.size w1.heap.size _ _ HI4.out hs4).mono ?_)
        rintro e w5 ⟨rfl, _, hb5, _⟩
        have HB5 := Lib.hid (HB0.out.trans ((HB4.out.trans hb5).mono HB0.out.size))
        clear hb5
        go_wp2
        go_ret2
        exact ⟨by rw [HEQ.out, show RV.2 = 0 by rw [HRS.out]]; rfl, HB5.out⟩
  · have z0 : ((er : Int) != 0) = true := by simpa using he
    have z1 : ((er : Int) == 0) = false := beq_false_of_ne (by omega)
    have HRS := Lib.hid (show RV = ([], er) by rw [HRV.out, if_pos he])
    clear he
    go_enter Tryd.func8, Tryd.ntmps8
    go_wp2_with (go_at_call 7; with_reducible refine (KA.out).mono ?_)
    rintro e w1 ⟨ov, out, rfl, hb1, hmap, hms⟩
    have HB0 := Lib.hid hb1
    clear hb1 hmap hms
    go_wp2
    go_ret2
    exact ⟨by rw [HRS.out]; rfl, HB0.out⟩

end Go.Proofs.YtoniccokohjenaaDoor
