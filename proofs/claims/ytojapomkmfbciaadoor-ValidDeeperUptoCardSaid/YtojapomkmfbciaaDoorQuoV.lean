/-
  Plain Lean: what is written has no sign that may not be (chapter 5).
-/
import Derived.Test.YtojapomkmfbciaaDoorQuoP
namespace Go.Proofs.YtojapomkmfbciaaDoor

/-- a written text's inside: pairs that begin with a backslash, and other signs -/
inductive Signs (all : Bool) : List UInt8 → Prop
  | nil : Signs all []
  | esc (x : UInt8) (r : List UInt8) : Signs all r → Signs all (92 :: x :: r)
  | one (b : UInt8) (r : List UInt8) : b.toNat ≠ 92 → 32 ≤ b.toNat → b.toNat ≠ 34 → b.toNat ≠ 127 → (all = true → b.toNat ≤ 127) → Signs all r → Signs all (b :: r)

theorem Signs.append {all : Bool} {a b : List UInt8} (h : Signs all a) (k : Signs all b) : Signs all (a ++ b) := by
  induction h with
  | nil => exact k
  | esc x r _ ih => exact .esc x _ ih
  | one c r h1 h2 h3 h4 h5 _ ih => exact .one c _ h1 h2 h3 h4 h5 ih

theorem hexD_ok : ∀ d : Fin 16, (hexD d.val).toNat ≠ 92 ∧ 32 ≤ (hexD d.val).toNat ∧ (hexD d.val).toNat ≠ 34 ∧ (hexD d.val).toNat ≠ 127 ∧ (hexD d.val).toNat ≤ 127 := by decide +kernel
theorem signs_hex (all : Bool) (d : Nat) (hd : d < 16) {r : List UInt8} (h : Signs all r) : Signs all (hexD d :: r) := by
  obtain ⟨h1, h2, h3, h4, h5⟩ := hexD_ok ⟨d, hd⟩
  exact .one _ _ h1 h2 h3 h4 (fun _ => h5) h
theorem signs_unit (all : Bool) (h : Nat) : Signs all (unitL h) :=
  .esc _ _ (signs_hex _ _ (Nat.mod_lt _ (by decide)) (signs_hex _ _ (Nat.mod_lt _ (by decide)) (signs_hex _ _ (Nat.mod_lt _ (by decide)) (signs_hex _ _ (Nat.mod_lt _ (by decide)) .nil))))
theorem signs_high (l : List UInt8) (h : ∀ b ∈ l, 128 ≤ b.toNat) : Signs false l := by
  induction l with
  | nil => exact .nil
  | cons b r ih =>
    have := h b (List.mem_cons_self)
    exact .one b r (by omega) (by omega) (by omega) (by omega) (fun e => by cases e) (ih (fun c hc => h c (List.mem_cons_of_mem _ hc)))

theorem ofNat_big (x : Int) (h : 128 ≤ x) (h2 : x < 256) : 128 ≤ (UInt8.ofNat x.toNat).toNat := by
  rw [UInt8.toNat_ofNat', Nat.mod_eq_of_lt (by omega)]; omega
theorem enc_high (p : Int) (hp : isPt p = true) (h : 128 ≤ p) : ∀ b ∈ enc p, 128 ≤ b.toNat := by
  have hz := (isPt_iff p).1 hp
  intro b hb
  by_cases h1 : p < 2048
  · rw [enc_two p h h1] at hb
    rcases List.mem_cons.1 hb with rfl | hb
    · exact ofNat_big _ (by omega) (by omega)
    · rw [List.mem_singleton.1 hb]; exact ofNat_big _ (by omega) (by omega)
  · by_cases h2 : p < 65536
    · rw [enc_three p (by omega) h2] at hb
      rcases List.mem_cons.1 hb with rfl | hb
      · exact ofNat_big _ (by omega) (by omega)
      rcases List.mem_cons.1 hb with rfl | hb
      · exact ofNat_big _ (by omega) (by omega)
      · rw [List.mem_singleton.1 hb]; exact ofNat_big _ (by omega) (by omega)
    · rw [enc_four p (by omega)] at hb
      rcases List.mem_cons.1 hb with rfl | hb
      · exact ofNat_big _ (by omega) (by omega)
      rcases List.mem_cons.1 hb with rfl | hb
      · exact ofNat_big _ (by omega) (by omega)
      rcases List.mem_cons.1 hb with rfl | hb
      · exact ofNat_big _ (by omega) (by omega)
      · rw [List.mem_singleton.1 hb]; exact ofNat_big _ (by omega) (by omega)

theorem shortP_zero (p : Nat) (h : shortP p = 0) : p ≠ 34 ∧ p ≠ 92 := by
  unfold shortP at h
  split at h
  · omega
  · omega

theorem signs_write (all : Bool) (p : Nat) (hp : isPt (p : Int) = true) : Signs all (writeP all p) := by
  unfold writeP
  split
  · exact .esc _ _ .nil
  rename_i hs
  have hs' : shortP p = 0 := by omega
  obtain ⟨h34, h92⟩ := shortP_zero p hs'
  split
  · exact signs_unit all p
  rename_i h1
  split
  · exact (signs_unit all _).append (signs_unit all _)
  rename_i h2
  by_cases h : p < 128
  · rw [enc_one (p : Int) (by omega)]
    have hb : (UInt8.ofNat (p : Int).toNat).toNat = p := by rw [UInt8.toNat_ofNat', Int.toNat_natCast]; exact Nat.mod_eq_of_lt (by omega)
    exact .one _ _ (by rw [hb]; exact h92) (by rw [hb]; omega) (by rw [hb]; exact h34) (by rw [hb]; omega) (fun _ => by rw [hb]; omega) .nil
  · have ha : all = false := by
      cases all with
      | false => rfl
      | true => exfalso; by_cases h3 : p < 65536
                · exact h1 (.inr (.inr ⟨rfl, by omega, h3⟩))
                · exact h2 ⟨rfl, by omega⟩
    subst ha
    exact signs_high _ (enc_high _ hp (by omega))

theorem signs_body (all : Bool) (l : List Int) (h : ∀ p ∈ l, isPt p = true) : Signs all (bodyP all l) := by
  induction l with
  | nil => exact .nil
  | cons p r ih =>
    rw [bodyP_cons]
    have hp := h p List.mem_cons_self
    have hz := (isPt_iff p).1 hp
    have e : ((p.toNat : Nat) : Int) = p := by omega
    exact (signs_write all p.toNat (by rw [e]; exact hp)).append (ih (fun q hq => h q (List.mem_cons_of_mem _ hq)))

theorem written_signs (all : Bool) (l : List UInt8) : ∃ b, Signs all b ∧ writtenP all l = 34 :: (b ++ [34]) := ⟨_, signs_body all _ (explode_pt l), rfl⟩

end Go.Proofs.YtojapomkmfbciaaDoor
