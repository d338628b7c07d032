/-
  Plain Lean: what was written is read again (chapter 5).
-/
import Derived.Test.YtojapomkmfbciaaDoorQuoV
import Derived.Test.YtojapomkmfbciaaDoorQuoJ
namespace Go.Proofs.YtojapomkmfbciaaDoor

theorem hexV_D : ∀ d : Fin 16, hexV (hexD d.val).toNat = some d.val := by decide +kernel
theorem four_unit (a b c d : Nat) (ha : a < 16) (hb : b < 16) (hc : c < 16) (hd : d < 16) (m : List UInt8) :
    fourL (hexD a :: hexD b :: hexD c :: hexD d :: m) = (4096 * a + 256 * b + 16 * c + d, 4) := by
  have ea := hexV_D ⟨a, ha⟩
  have eb := hexV_D ⟨b, hb⟩
  have ec := hexV_D ⟨c, hc⟩
  have ed := hexV_D ⟨d, hd⟩
  simp only [] at ea eb ec ed
  have h0 : bt (hexD a :: hexD b :: hexD c :: hexD d :: m) 0 = (hexD a).toNat := rfl
  have h1 : bt (hexD a :: hexD b :: hexD c :: hexD d :: m) 1 = (hexD b).toNat := rfl
  have h2 : bt (hexD a :: hexD b :: hexD c :: hexD d :: m) 2 = (hexD c).toNat := rfl
  have h3 : bt (hexD a :: hexD b :: hexD c :: hexD d :: m) 3 = (hexD d).toNat := rfl
  have hl : 4 ≤ (hexD a :: hexD b :: hexD c :: hexD d :: m).length := by simp
  unfold fourL
  generalize hexD a :: hexD b :: hexD c :: hexD d :: m = l at h0 h1 h2 h3 hl
  unfold fourF
  rw [if_neg (by omega), h0, ea]
  simp only []
  unfold fourF
  rw [if_neg (by omega), h1, eb]
  simp only []
  unfold fourF
  rw [if_neg (by omega), h2, ec]
  simp only []
  unfold fourF
  rw [if_neg (by omega), h3, ed]
  simp only []
  unfold fourF
  rw [Prod.mk.injEq]
  exact ⟨by omega, rfl⟩
theorem four_h (h : Nat) (hh : h ≤ 65535) (m : List UInt8) : fourL ((unitL h ++ m).drop 2) = (h, 4) := by
  show fourL (hexD (h / 4096 % 16) :: hexD (h / 256 % 16) :: hexD (h / 16 % 16) :: hexD (h % 16) :: m) = _
  rw [four_unit _ _ _ _ (Nat.mod_lt _ (by decide)) (Nat.mod_lt _ (by decide)) (Nat.mod_lt _ (by decide)) (Nat.mod_lt _ (by decide)), Prod.mk.injEq]
  exact ⟨by omega, rfl⟩

theorem next_esc (l : List UInt8) (h : bt l 0 = 92) (h1 : 2 ≤ l.length) : nextP l = escapedP l := by
  unfold nextP
  rw [if_neg (by omega), if_neg (by omega), if_pos h]

theorem next_two (x : UInt8) (m : List UInt8) : nextP (92 :: x :: m) = if x.toNat = 34 ∨ x.toNat = 92 ∨ x.toNat = 47 then ⟨x.toNat, 2, 0⟩
  else if x.toNat = 98 then ⟨8, 2, 0⟩
  else if x.toNat = 102 then ⟨12, 2, 0⟩
  else if x.toNat = 110 then ⟨10, 2, 0⟩
  else if x.toNat = 114 then ⟨13, 2, 0⟩
  else if x.toNat = 116 then ⟨9, 2, 0⟩
  else if x.toNat = 117 then numberedP (92 :: x :: m)
  else faultP (92 :: x :: m) 1 := by
  rw [next_esc _ rfl (by simp)]
  unfold escapedP
  rw [if_neg (by simp)]
  rfl

theorem next_unit (h : Nat) (hh : h ≤ 65535) (hs : h < 55296 ∨ 57343 < h) (m : List UInt8) : nextP (unitL h ++ m) = ⟨h, 6, 0⟩ := by
  have hl : 6 ≤ (unitL h ++ m).length := by rw [List.length_append, unitL_len]; omega
  have hf := four_h h hh m
  rw [next_esc _ rfl (by omega)]
  unfold escapedP
  have b1 : bt (unitL h ++ m) 1 = 117 := rfl
  rw [if_neg (by omega), b1, if_neg (by decide), if_neg (by decide), if_neg (by decide), if_neg (by decide), if_neg (by decide), if_neg (by decide), if_pos rfl]
  unfold numberedP
  rw [hf]
  simp only []
  rw [if_neg (by decide), if_pos hs]

theorem next_pair (a b : Nat) (ha : 55296 ≤ a) (ha2 : a < 56320) (hb : 56320 ≤ b) (hb2 : b ≤ 57343) (m : List UInt8) :
    nextP (unitL a ++ (unitL b ++ m)) = ⟨65536 + (a - 55296) * 1024 + b - 56320, 12, 0⟩ := by
  have hl : 12 ≤ (unitL a ++ (unitL b ++ m)).length := by rw [List.length_append, List.length_append, unitL_len, unitL_len]; omega
  have hf := four_h a (by omega) (unitL b ++ m)
  have hg : fourL ((unitL a ++ (unitL b ++ m)).drop 8) = (b, 4) := four_h b (by omega) m
  rw [next_esc _ rfl (by omega)]
  unfold escapedP
  have b1 : bt (unitL a ++ (unitL b ++ m)) 1 = 117 := rfl
  have b6 : bt (unitL a ++ (unitL b ++ m)) 6 = 92 := rfl
  have b7 : bt (unitL a ++ (unitL b ++ m)) 7 = 117 := rfl
  rw [if_neg (by omega), b1, if_neg (by decide), if_neg (by decide), if_neg (by decide), if_neg (by decide), if_neg (by decide), if_neg (by decide), if_pos rfl]
  unfold numberedP
  rw [hf, hg, b6, b7]
  simp only []
  rw [if_neg (by decide), if_neg (by omega), if_pos ⟨ha2, hl, trivial, trivial, trivial, hb, hb2⟩]

theorem bt_enc (p : Int) (hp : isPt p = true) (m : List UInt8) : (p < 128 → bt (enc p ++ m) 0 = p.toNat) ∧ (128 ≤ p → 128 ≤ bt (enc p ++ m) 0) := by
  have hz := (isPt_iff p).1 hp
  refine ⟨fun h => ?_, fun h => ?_⟩
  · rw [enc_one p h, List.singleton_append, bt_cons0, UInt8.toNat_ofNat', Nat.mod_eq_of_lt (by omega)]
  · have hl := enc_pos p
    have : bt (enc p ++ m) 0 = ((enc p)[0]'(by omega)).toNat := by
      unfold bt
      rw [List.getElem?_append_left (by omega), List.getElem?_eq_getElem (by omega)]
      rfl
    rw [this]
    exact enc_high p hp h _ (List.getElem_mem _)

theorem next_enc (p : Nat) (hp : isPt (p : Int) = true) (h32 : 32 ≤ p) (h34 : p ≠ 34) (h92 : p ≠ 92) (m : List UInt8) : nextP (enc (p : Int) ++ m) = ⟨p, (enc (p : Int)).length, 0⟩ := by
  have hl := enc_pos (p : Int)
  have hb := bt_enc (p : Int) hp m
  have h0 : 32 ≤ bt (enc (p : Int) ++ m) 0 ∧ bt (enc (p : Int) ++ m) 0 ≠ 34 ∧ bt (enc (p : Int) ++ m) 0 ≠ 92 := by
    by_cases h : p < 128
    · rw [hb.1 (by omega), Int.toNat_natCast]; exact ⟨h32, h34, h92⟩
    · have := hb.2 (by omega); omega
  have ht : (enc (p : Int) ++ m).take 4 = enc (p : Int) ++ m.take (4 - (enc (p : Int)).length) := by
    rw [List.take_append, List.take_of_length_le hl.2]
  unfold nextP
  rw [if_neg (by rw [List.length_append]; omega), if_neg h0.2.1, if_neg h0.2.2, if_neg (by omega), ht, enc_ok _ hp, enc_dec _ hp, if_pos rfl, Int.toNat_natCast]

/-- a code point that was written is a piece -/
theorem next_write (all : Bool) (p : Nat) (hp : isPt (p : Int) = true) (m : List UInt8) : nextP (writeP all p ++ m) = ⟨p, (writeP all p).length, 0⟩ := by
  have hz := (isPt_iff (p : Int)).1 hp
  unfold writeP
  split
  · rename_i hs
    have hv : p = 34 ∨ p = 92 ∨ p = 8 ∨ p = 9 ∨ p = 10 ∨ p = 12 ∨ p = 13 := by
      unfold shortP at hs
      by_cases h : p = 34 ∨ p = 92 ∨ p = 8 ∨ p = 9 ∨ p = 10 ∨ p = 12 ∨ p = 13
      · exact h
      · exfalso; apply hs; rw [if_neg (by omega), if_neg (by omega), if_neg (by omega), if_neg (by omega), if_neg (by omega), if_neg (by omega)]
    rcases hv with rfl | rfl | rfl | rfl | rfl | rfl | rfl
    · show nextP (92 :: (34 : UInt8) :: m) = ⟨34, 2, 0⟩
      rw [next_two, if_pos (by decide)]; rfl
    · show nextP (92 :: (92 : UInt8) :: m) = ⟨92, 2, 0⟩
      rw [next_two, if_pos (by decide)]; rfl
    · show nextP (92 :: (98 : UInt8) :: m) = ⟨8, 2, 0⟩
      rw [next_two, if_neg (by decide), if_pos (by decide)]
    · show nextP (92 :: (116 : UInt8) :: m) = ⟨9, 2, 0⟩
      rw [next_two, if_neg (by decide), if_neg (by decide), if_neg (by decide), if_neg (by decide), if_neg (by decide), if_pos (by decide)]
    · show nextP (92 :: (110 : UInt8) :: m) = ⟨10, 2, 0⟩
      rw [next_two, if_neg (by decide), if_neg (by decide), if_neg (by decide), if_pos (by decide)]
    · show nextP (92 :: (102 : UInt8) :: m) = ⟨12, 2, 0⟩
      rw [next_two, if_neg (by decide), if_neg (by decide), if_pos (by decide)]
    · show nextP (92 :: (114 : UInt8) :: m) = ⟨13, 2, 0⟩
      rw [next_two, if_neg (by decide), if_neg (by decide), if_neg (by decide), if_neg (by decide), if_pos (by decide)]
  rename_i hs
  obtain ⟨h34, h92⟩ := shortP_zero p (by omega)
  split
  · rename_i h
    rw [next_unit p (by omega) (by omega), unitL_len]
  rename_i h1
  split
  · rename_i h2
    rw [List.append_assoc, next_pair _ _ (by omega) (by omega) (by omega) (by omega), List.length_append, unitL_len, unitL_len]
    have e : 65536 + (55296 + (p - 65536) / 1024 - 55296) * 1024 + (56320 + (p - 65536) % 1024) - 56320 = p := by omega
    rw [e]
  · exact next_enc p hp (by omega) h34 h92 m

theorem writeP_pos (all : Bool) (p : Nat) : 0 < (writeP all p).length := by
  unfold writeP
  (repeat' split)
  · simp
  · rw [unitL_len]; decide
  · rw [List.length_append, unitL_len]; omega
  · exact (enc_pos _).1

theorem next_shut (m : List UInt8) : nextP (34 :: m) = ⟨0, 0, 0⟩ := by
  unfold nextP
  rw [if_neg (by simp), if_pos (show bt (34 :: m) 0 = 34 from rfl)]

/-- all pieces of what was written -/
theorem pieces_body (all : Bool) : ∀ (l : List Int), (∀ p ∈ l, isPt p = true) → ∀ m : List UInt8, piecesP (bodyP all l ++ 34 :: m) = (l.map fun p => (⟨p.toNat, (writeP all p.toNat).length, 0⟩ : Pc)) ++ [⟨0, 0, 0⟩]
  | [], _, m => by
    show piecesP (34 :: m) = [⟨0, 0, 0⟩]
    rw [piecesP_last _ (by rw [next_shut]; exact .inr rfl), next_shut]
  | p :: l, h, m => by
    have hp := h p List.mem_cons_self
    have hz := (isPt_iff p).1 hp
    have e : ((p.toNat : Nat) : Int) = p := by omega
    have hn := next_write all p.toNat (by rw [e]; exact hp) (bodyP all l ++ 34 :: m)
    have hw := writeP_pos all p.toNat
    rw [bodyP_cons, List.append_assoc, piecesP_cons _ (by rw [hn]; unfold lastP; simp only []; omega), hn]
    simp only [List.drop_append_of_le_length (Nat.le_refl _), List.drop_length, List.nil_append, List.map_cons, List.cons_append]
    rw [pieces_body all l (fun q hq => h q (List.mem_cons_of_mem _ hq)) m]

theorem sizeP_append (a b : List Pc) : sizeP (a ++ b) = sizeP a + sizeP b := by simp [sizeP]
theorem textP_append (a b : List Pc) : textP (a ++ b) = textP a ++ textP b := by simp [textP]
theorem size_body (all : Bool) : ∀ (l : List Int), sizeP (l.map fun p => (⟨p.toNat, (writeP all p.toNat).length, 0⟩ : Pc)) = (bodyP all l).length
  | [] => rfl
  | p :: l => by rw [List.map_cons, sizeP_cons, size_body all l, bodyP_cons, List.length_append]
theorem text_body (all : Bool) : ∀ (l : List Int), (∀ p ∈ l, isPt p = true) → textP (l.map fun p => (⟨p.toNat, (writeP all p.toNat).length, 0⟩ : Pc)) = allB l
  | [], _ => rfl
  | p :: l, h => by
    have hz := (isPt_iff p).1 (h p List.mem_cons_self)
    have e : ((p.toNat : Nat) : Int) = p := by omega
    rw [List.map_cons, textP_cons, text_body all l (fun q hq => h q (List.mem_cons_of_mem _ hq)), if_pos (writeP_pos all p.toNat), e, allB_cons]

/-- **what was written is read as the text made sound, and all of it, whatever stands behind** -/
theorem read_written (all : Bool) (s more : List UInt8) : readP (writtenP all s ++ more) = (clean s, (writtenP all s).length, 0) := by
  have hpt := explode_pt s
  have hp := pieces_body all (explode s) hpt more
  have hd : (writtenP all s ++ more).drop 1 = bodyP all (explode s) ++ 34 :: more := by
    unfold writtenP; simp
  have hne : errP (piecesP ((writtenP all s ++ more).drop 1)) = 0 := by
    rw [hd, hp]
    refine errP_none _ (fun q hq => ?_)
    rcases List.mem_append.1 hq with hq | hq
    · obtain ⟨r, _, rfl⟩ := List.mem_map.1 hq; rfl
    · rw [List.mem_singleton.1 hq]
  unfold readP
  rw [if_neg (by unfold writtenP; simp [bt]), if_neg (fun h => h hne), hd, hp, textP_append, sizeP_append, size_body, text_body _ _ hpt]
  rw [Prod.mk.injEq, Prod.mk.injEq]
  refine ⟨by simp [textP, clean], ?_, rfl⟩
  show 2 + ((bodyP all (explode s)).length + 0) = _
  unfold writtenP
  simp
  omega

end Go.Proofs.YtojapomkmfbciaaDoor
