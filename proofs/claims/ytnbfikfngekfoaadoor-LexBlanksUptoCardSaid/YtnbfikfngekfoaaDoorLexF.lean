/-
  The walks of lex's viable and piece (chapter 14).
  The walk of lex's piece (chapter 14).
-/
import Derived.Test.YtnbfikfngekfoaaDoorLexD
import Derived.Test.YtnbfikfngekfoaaDoorLexV
import Derived.Lib.ConvBytes
namespace Go.Proofs.YtnbfikfngekfoaaDoor
open Go.RowKit

theorem lconv_run (w : World) (X : ByteArray) : (convert 9 52 (.string X)).run Tryd.prog w = .ok (.slice (some ⟨w.heap.size, 0, none⟩) X.size (grownCap w X.size 0 5)) (Lib.bytesWorld w 5 X) :=
  Lib.run_convert_string_bytes (P := Tryd.prog) w 9 52 5 X Tryd.underlying9 Tryd.underlying52 Tryd.underlying5
theorem lbytes_below (w : World) (X : ByteArray) : Below w.heap.size w (Lib.bytesWorld w 5 X) :=
  ⟨rfl, rfl, rfl, by rw [Lib.bytesWorld_size]; omega, fun k hk => Lib.bytesWorld_at_old w _ _ k hk⟩
theorem lconv_rd (w : World) (X : ByteArray) : RdB (Lib.bytesWorld w 5 X) (some ⟨w.heap.size, 0, none⟩) X.size X.data.toList := by
  refine ⟨(Lib.size_eq X).symm, fun _ => ⟨w.heap.size, 0, rfl, by rw [Lib.bytesWorld_size]; exact Nat.lt_succ_self _, fun i hi => ?_⟩⟩
  rw [Nat.zero_add, Lib.cell_of_heap (Lib.bytesWorld_at_new w 5 X)]
  unfold Lib.bytesCells bt
  rw [Lib.size_eq] at hi
  rw [Array.getElem?_append_left (by simpa using hi)]
  have hi' : i < X.data.size := by simpa using hi
  rw [Array.getElem?_map, Array.getElem?_eq_getElem hi', Array.getElem?_toList, Array.getElem?_eq_getElem hi']
  rfl
/-- Read, called with a converted string -/
theorem read_conv (w : World) (hT : Tabs w) (X : ByteArray) (hn : X.size ≤ 17592186044416) :
    Calls Tryd.prog 46 #[.slice (some ⟨w.heap.size, 0, none⟩) X.size (grownCap w X.size 0 5)] (Lib.bytesWorld w 5 X) fun e w' => e = .returned (readV X.data.toList) ∧ Below w.heap.size w w' :=
  (quoRead_any _ _ _ _ _ (hT.below (lbytes_below w X) (Nat.le_refl _)) (lconv_rd w X) hn (grownCap_ge w X.size 0 _)).mono fun _ _ h => ⟨h.1, (lbytes_below w X).trans (h.2.mono (by rw [Lib.bytesWorld_size]; omega))⟩

theorem readP_small (x : List UInt8) : (readP (34 :: x)).2.1 ≤ 2 + 12 * (x.length + 1) := by
  have h1 := sizeQ_le (piecesQ x)
  have h2 := piecesP_len x.length x (Nat.le_refl _)
  have h3 : (piecesQ x).length = (piecesP x).length := by
    have := congrArg List.length (valsQ_all x)
    rwa [show (valsQ (piecesQ x)).length = (piecesQ x).length from List.length_map _] at this
  rw [valsQ_all, h3] at h1
  rw [read_quoted]
  split <;> simp only <;> omega

set_option maxHeartbeats 1000000 in
set_option maxRecDepth 100000 in
theorem lexViable_any (s : ByteArray) (w : World) (hT : Tabs w) (hs : s.size ≤ 1073741824) :
    Calls Tryd.prog 40 #[.string s] w fun e w' => e = .returned (.int .i64 (((readP (34 :: s.data.toList.take 6)).2.1 : Int) - 1)) ∧ Below w.heap.size w w' := by
  obtain ⟨X, hX⟩ : ∃ X : ByteArray, (⟨#[34]⟩ ++ s.extract 0 (min (s.size : Int) 6).toNat : ByteArray) = X := ⟨_, rfl⟩
  have hXl : X.data.toList = 34 :: s.data.toList.take 6 := by
    rw [← hX]
    have e1 : (⟨#[34]⟩ ++ s.extract 0 (min (s.size : Int) 6).toNat : ByteArray).data.toList = 34 :: (s.extract 0 (min (s.size : Int) 6).toNat).data.toList := by simp
    rw [e1, take_ext]
    congr 1
    rcases Nat.lt_or_ge s.size 6 with h | h
    · rw [show (min (s.size : Int) 6).toNat = s.size by omega, List.take_of_length_le (by rw [← Lib.size_eq]; exact Nat.le_refl _), List.take_of_length_le (by rw [← Lib.size_eq]; omega)]
    · rw [show (min (s.size : Int) 6).toNat = 6 by omega]
  have hXs : X.size ≤ 7 := by rw [Lib.size_eq, hXl, List.length_cons, List.length_take]; omega
  have hrd := read_conv w hT X (by omega)
  have hrv : readV X.data.toList = .tuple #[.string ⟨(readP (34 :: s.data.toList.take 6)).1.toArray⟩, .int .i64 ((readP (34 :: s.data.toList.take 6)).2.1 : Int), .int .i64 ((readP (34 :: s.data.toList.take 6)).2.2 : Int)] := by rw [hXl]; rfl
  rw [hrv] at hrd
  have hle := readP_small (s.data.toList.take 6)
  have hl6 : (s.data.toList.take 6).length ≤ 6 := by rw [List.length_take]; omega
  clear hrv hXl
  generalize readP (34 :: s.data.toList.take 6) = R at *
  have hle' : R.2.1 ≤ 100 := by omega
  clear hle hl6
  have hcv := lconv_run w X
  have HRD := Lib.hid hrd
  have HX := Lib.hid hX
  clear hrd hX
  go_enter Tryd.func40, Tryd.ntmps40
  go_upto_region 1 with fail
  go_wp2_with fail
  rw [HX.out, hcv]
  simp only [Result.andThen]
  rw [Oper.upon_value]
  go_wp2_with (go_at_call 46; refine HRD.out.mono ?_)
  rintro e w1 ⟨rfl, hb1⟩
  go_wp2
  go_ret
  exact ⟨rfl, hb1⟩

end Go.Proofs.YtnbfikfngekfoaaDoor

namespace Go.Proofs.YtnbfikfngekfoaaDoor
open Go.RowKit

/-- what piece answers -/
def pieceV (p : List UInt8 × Nat) : Value := .tuple #[.string ⟨p.1.toArray⟩, .int .i64 (p.2 : Int)]
/-- the sizes that are tried, in a row of the call's own -/
def SzRow (w : World) (b : Nat) (l : List Nat) : Prop := ∀ i, i < l.length → w.cell? ⟨b, i, none⟩ = some (.int .i64 ((l.getD i 0 : Nat) : Int))

theorem SzRow.below {w w' : World} {b : Nat} {l : List Nat} (h : SzRow w b l) (hlt : b < w.heap.size) (hb : Below w.heap.size w w') : SzRow w' b l := fun i hi => (hb.cell (p := ⟨b, i, none⟩) hlt).trans (h i hi)
theorem sizesR_len (l : List UInt8) : (sizesR l).length ≤ 2 ∧ ∀ n ∈ sizesR l, n ≤ 12 ∧ 2 ≤ n := by
  unfold sizesR; split <;> simp
theorem tryAll_at (l : List UInt8) (L : List Nat) (k : Nat) (h : k < L.length) : tryAll l (L.drop k) = match tryR l L[k] with
    | some t => (t, L[k])
    | none => tryAll l (L.drop (k + 1)) := by rw [List.drop_eq_getElem_cons h]; rfl

theorem readP_text (x : List UInt8) : (readP (34 :: x)).1.length ≤ 4 * (x.length + 1) := by
  have h1 := textQ_le (piecesQ x)
  have h2 := piecesP_len x.length x (Nat.le_refl _)
  have h3 : (piecesQ x).length = (piecesP x).length := by
    have := congrArg List.length (valsQ_all x)
    rwa [show (valsQ (piecesQ x)).length = (piecesQ x).length from List.length_map _] at this
  rw [valsQ_all, h3] at h1
  rw [read_quoted]
  split
  · simp
  · simp only; omega

set_option maxHeartbeats 2000000 in
set_option maxRecDepth 100000 in
theorem lexPiece_any (s : ByteArray) (w : World) (hT : Tabs w) (hs : s.size ≤ 1073741824) :
    Calls Tryd.prog 39 #[.string s] w fun e w' => e = .returned (pieceV (pieceR s.data.toList)) ∧ Below w.heap.size w w' := by
  have HB := Lib.hid (bt_s s)
  have HB0 := Lib.hid (bt_e s)
  have hp : pieceR s.data.toList = tryAll s.data.toList (sizesR s.data.toList) := rfl
  have hsz : sizesR s.data.toList = if bt s.data.toList 1 = 117 then [12, 6] else [2] := rfl
  have hlen := sizesR_len s.data.toList
  have HP := Lib.hid hp
  have HSZ := Lib.hid hsz
  clear hp hsz
  generalize hL : sizesR s.data.toList = L at HP HSZ hlen
  clear hL
  go_enter Tryd.func39, Tryd.ntmps39
  go_upto_region 2 with fail
  go_cut [18] (fun t wx => t = .bool (decide (bt s.data.toList 1 = 117)) ∧ wx = w.alloc (.cells #[.int .i64 2] 3))
  case first =>
    by_cases hlt : 1 < s.size
    · have hb := HB.out 1 hlt
      have hlti : decide ((1 : Int) < (s.size : Int)) = true := decide_eq_true (by omega)
      by_cases hu : bt s.data.toList 1 = 117
      · have hz : ((s[1].toNat : Int) == 117) = true := by rw [hb] at hu; rw [hu]; rfl
        go_wp2_with fail
        go_meet
        exact ⟨by rw [decide_eq_true hu], rfl⟩
      · have hz : ((s[1].toNat : Int) == 117) = false := by rw [hb] at hu; exact beq_false_of_ne (by omega)
        go_wp2_with fail
        go_meet
        exact ⟨by rw [decide_eq_false hu], rfl⟩
    · have hlti : decide ((1 : Int) < (s.size : Int)) = false := decide_eq_false (by omega)
      go_wp2_with fail
      go_meet
      exact ⟨by rw [HB0.out 1 (by omega)]; rfl, rfl⟩
  case rest =>
    obtain ⟨rfl, rfl⟩ := hcut
    go_upto_if 18 with fail
    go_cut [4] (fun v wx => ∃ b, v = .slice (some ⟨b, 0, none⟩) L.length L.length ∧ w.heap.size ≤ b ∧ b < wx.heap.size ∧ SzRow wx b L ∧ Below w.heap.size w wx)
    case first =>
      by_cases hu : bt s.data.toList 1 = 117
      · obtain rfl : L = [12, 6] := by rw [HSZ.out, if_pos hu]
        rw [decide_eq_true hu]
        go_wp2_with fail
        go_meet
        refine ⟨w.heap.size + 1, rfl, by omega, by simp, fun i hi => ?_, ((Below.refl _ w).alloc (Nat.le_refl _) _).alloc (by simp) _⟩
        have hh := World.alloc_heap_new (w.alloc (.cells #[.int .i64 2] 3)) (.cells #[.int .i64 12, .int .i64 6] 3)
        rw [World.size_alloc] at hh
        rw [Lib.cell_of_heap hh]
        have hi2 : i = 0 ∨ i = 1 := by simp at hi; omega
        rcases hi2 with rfl | rfl <;> rfl
      · obtain rfl : L = [2] := by rw [HSZ.out, if_neg hu]
        rw [decide_eq_false hu]
        go_wp2_with fail
        go_meet
        refine ⟨w.heap.size, rfl, by omega, by simp, fun i hi => ?_, (Below.refl _ w).alloc (Nat.le_refl _) _⟩
        rw [Lib.cell_of_heap (World.alloc_heap_new w (.cells #[.int .i64 2] 3))]
        have hi2 : i = 0 := by simp at hi; omega
        subst hi2; rfl
    case rest =>
      obtain ⟨b, rfl, hb0, hb1, hrow, hbw⟩ := hcut
      clear HSZ HB HB0
      go_wp2
      go_loopw [22] (fun v wr => ∃ k : Nat, k ≤ L.length ∧ v = .int .i64 (k : Int) ∧ b < wr.heap.size ∧ SzRow wr b L ∧ Below w.heap.size w wr ∧ Hid (tryAll s.data.toList L = tryAll s.data.toList (L.drop k))) (fun v _ => L.length - (intOf v).toNat)
      case atStart => exact ⟨0, Nat.zero_le _, rfl, hb1, hrow, hbw, rfl⟩
      case round =>
        obtain ⟨k, hk, rfl, hb2, hrw, hbw2, htr⟩ := hrel
        by_cases hlt : k < L.length
        · have hcell := hrw k hlt
          rw [List.getD_eq_getElem?_getD, List.getElem?_eq_getElem hlt] at hcell
          have hst := tryAll_at s.data.toList L k hlt
          have hn := hlen.2 L[k] (List.getElem_mem hlt)
          generalize L[k] = n at hcell hst hn
          simp only [Option.getD_some] at hcell
          have HST := Lib.hid hst
          clear hst
          have hround : ∀ (W : World) (x : Int), tryR s.data.toList n = none → x = (k : Int) + 1 → b < W.heap.size → SzRow W b L → Below w.heap.size w W → (∃ m : Nat, m ≤ L.length ∧ Value.int .i64 x = .int .i64 (m : Int) ∧ b < W.heap.size ∧ SzRow W b L ∧ Below w.heap.size w W ∧ Hid (tryAll s.data.toList L = tryAll s.data.toList (L.drop m))) :=
            fun W x h hx h1 h2 h3 => ⟨k + 1, by omega, by rw [hx]; rfl, h1, h2, h3, Lib.hid (by rw [htr.out, HST.out, h])⟩
          have HR := Lib.hid hround
          clear hround
          by_cases hfar : s.size < n
          · have htn := try_far s.data.toList n (by rw [← Lib.size_eq]; exact hfar)
            have HTN := Lib.hid htn
            have hd : decide ((s.size : Int) < (n : Int)) = true := decide_eq_true (by omega)
            clear htn
            go_wp2
            go_roundw
            case rel => exact HR.out _ _ HTN.out rfl hb2 hrw hbw2
            case measure => simp [intOf]; omega
          · have hnle : n ≤ s.size := by omega
            obtain ⟨X, hX⟩ : ∃ X : ByteArray, (⟨#[34]⟩ ++ s.extract 0 n ++ ⟨#[34]⟩ : ByteArray) = X := ⟨_, rfl⟩
            have hXl : X.data.toList = 34 :: (s.data.toList.take n ++ [34]) := by
              rw [← hX]
              have e1 : (⟨#[34]⟩ ++ s.extract 0 n ++ ⟨#[34]⟩ : ByteArray).data.toList = 34 :: ((s.extract 0 n).data.toList ++ [34]) := by simp
              rw [e1, take_ext]
            have hl12 : (s.data.toList.take n ++ [34]).length = n + 1 := by rw [List.length_append, List.length_take, ← Lib.size_eq, Nat.min_eq_left hnle]; rfl
            have hXs : X.size = n + 2 := by rw [Lib.size_eq, hXl, List.length_cons, hl12]
            have hrd := read_conv wr (hT.below hbw2 (Nat.le_refl _)) X (by omega)
            have hrv : readV X.data.toList = .tuple #[.string ⟨(readP (34 :: (s.data.toList.take n ++ [34]))).1.toArray⟩, .int .i64 ((readP (34 :: (s.data.toList.take n ++ [34]))).2.1 : Int), .int .i64 ((readP (34 :: (s.data.toList.take n ++ [34]))).2.2 : Int)] := by rw [hXl]; rfl
            rw [hrv] at hrd
            have hr1 := readP_small (s.data.toList.take n ++ [34])
            have hr2 := readP_text (s.data.toList.take n ++ [34])
            have htry : tryR s.data.toList n = if n ≤ s.data.toList.length ∧ (readP (34 :: (s.data.toList.take n ++ [34]))).2.2 = 0 ∧ (readP (34 :: (s.data.toList.take n ++ [34]))).2.1 = n + 2 ∧ (explode (readP (34 :: (s.data.toList.take n ++ [34]))).1).length = 1 then some (readP (34 :: (s.data.toList.take n ++ [34]))).1 else none := rfl
            rw [hl12] at hr1 hr2
            clear hrv hXl hl12
            generalize readP (34 :: (s.data.toList.take n ++ [34])) = R at *
            have HTRY := Lib.hid htry
            have hcv := lconv_run wr X
            have HRD := Lib.hid hrd
            have HX := Lib.hid hX
            have hd : decide ((s.size : Int) < (n : Int)) = false := decide_eq_false (by omega)
            have HXS := Lib.hid hXs
            clear hrd hX htry hXs
            go_wp2
            rw [HX.out, hcv]
            simp only [Result.andThen]
            rw [Oper.upon_value]
            go_wp2_with (go_at_call 46; refine HRD.out.mono ?_)
            rintro e w1 ⟨rfl, hbr⟩
            have hr2' : (⟨R.1.toArray⟩ : ByteArray).size ≤ 17592186044416 := by
              have : (⟨R.1.toArray⟩ : ByteArray).size = R.1.length := rfl
              omega
            have hex : ∀ W : World, Calls Tryd.prog 47 #[.string ⟨R.1.toArray⟩] W fun e w' => ∃ A c, e = .returned (.slice A (explode R.1).length c) ∧ Below W.heap.size W w' := fun W => (utfExplode_any ⟨R.1.toArray⟩ W hr2').mono (by
              rintro e w' ⟨v, rfl, ho, hb⟩
              obtain ⟨A, c, rfl⟩ := lowns_slice ho
              exact ⟨A, c, rfl, hb⟩)
            generalize (explode R.1).length = E at hex HTRY
            have HEX := Lib.hid hex
            clear hex hr2'
            have hbW := hbw2.trans (hbr.mono hbw2.size)
            have hrW := hrw.below hb2 hbr
            have hbs := hbr.size
            go_upto_region 9 with fail
            go_cut [54] (fun t wx => t = .bool (decide (R.2.2 = 0 ∧ R.2.1 = n + 2 ∧ E = 1)) ∧ Below w1.heap.size w1 wx)
            case first =>
              by_cases q1 : R.2.2 = 0
              · have z1 : ((R.2.2 : Int) == 0) = true := by rw [q1]; rfl
                have Q1 := Lib.hid q1
                clear q1
                by_cases q2 : R.2.1 = n + 2
                · have z2 : ((R.2.1 : Int) == (n : Int) + 2) = true := by rw [q2]; simp
                  have Q2 := Lib.hid q2
                  clear q2
                  go_wp2_with (go_at_call 47; refine (HEX.out _).mono ?_)
                  rintro e w2 ⟨A2, c2, rfl, hb2'⟩
                  go_wp2_with fail
                  go_meet
                  exact ⟨by simp only [Q1.out, Q2.out, true_and]; rw [show ((E : Int) == 1) = decide (E = 1) by rw [Bool.eq_iff_iff]; simp; omega], hb2'⟩
                · have z2 : ((R.2.1 : Int) == (n : Int) + 2) = false := beq_false_of_ne (by omega)
                  have Q2 := Lib.hid q2
                  clear q2
                  go_wp2_with fail
                  go_meet
                  exact ⟨by rw [decide_eq_false (fun h => Q2.out h.2.1)], Below.refl _ _⟩
              · have z1 : ((R.2.2 : Int) == 0) = false := beq_false_of_ne (by omega)
                have Q1 := Lib.hid q1
                clear q1
                go_wp2_with fail
                go_meet
                exact ⟨by rw [decide_eq_false (fun h => Q1.out h.1)], Below.refl _ _⟩
            case rest =>
              obtain ⟨rfl, hbx⟩ := hcut
              have hbY := hbW.trans (hbx.mono hbW.size)
              have hrY := hrW.below (by omega) hbx
              have hbs2 := hbx.size
              by_cases hq : R.2.2 = 0 ∧ R.2.1 = n + 2 ∧ E = 1
              · have hyes : tryR s.data.toList n = some R.1 := by rw [HTRY.out, if_pos ⟨by rw [← Lib.size_eq]; exact hnle, hq⟩]
                rw [decide_eq_true hq]
                have HY := Lib.hid hyes
                clear hyes hq
                go_wp2_with fail
                go_ret2
                refine ⟨?_, hbY⟩
                rw [HP.out, htr.out, HST.out, HY.out]; rfl
              · have hno : tryR s.data.toList n = none := by rw [HTRY.out, if_neg (fun h => hq h.2)]
                rw [decide_eq_false hq]
                have HY := Lib.hid hno
                clear hno hq
                go_wp2_with fail
                go_roundw
                case rel => exact HR.out _ _ HY.out rfl (by omega) hrY hbY
                case measure => simp [intOf]; omega
        · obtain rfl : k = L.length := by omega
          go_wp2
          go_ret2
          refine ⟨?_, hbw2⟩
          rw [HP.out, htr.out, List.drop_length]; rfl

end Go.Proofs.YtnbfikfngekfoaaDoor
