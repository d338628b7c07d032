/-
  The walks of utf's and its reference's Explode.
-/
import Derived.Test.YtoniccokohjenaaUtfD
namespace Go.Proofs.Ytoniccokohjenaa
open Go.RowKit

theorem own_below {w w' : World} {base : Nat} {e : TypeId} {size : Nat} {v : Value} {n : Nat} {xs : List Value} (h : w.ownsRow base e size v n xs) (hb : Below w.heap.size w w') : w'.ownsRow base e size v n xs := by
  refine ⟨h.1, ?_⟩
  rcases h.2 with h2 | ⟨g, cap, cur, hv, hg, hh, r⟩
  · exact .inl h2
  · exact .inr ⟨g, cap, cur, hv, hg, by rw [hb.block g (Array.getElem?_eq_some_iff.1 hh).1]; exact hh, r⟩

theorem own_iterAt {w : World} {base : Nat} {e : TypeId} {size : Nat} {v : Value} {n : Nat} {xs : List Value} (h : w.ownsRow base e size v n xs) {k : Nat} {s : ByteArray} {pos : Nat} (hk : w.heap[k]? = some (.stringIter s pos)) (pos' : Nat) : (w.iterAt k s pos').ownsRow base e size v n xs := by
  refine ⟨h.1, ?_⟩
  rcases h.2 with h2 | ⟨g, cap, cur, hv, hg, hh, r⟩
  · exact .inl h2
  · refine .inr ⟨g, cap, cur, hv, hg, ?_, r⟩
    rw [Lib.iterAt_other _ _ _ _ _ (by rintro rfl; rw [hk] at hh; cases hh)]
    exact hh

theorem own_value {w : World} {base : Nat} {e : TypeId} {size : Nat} {v : Value} {n : Nat} {xs : List Value} (h : w.ownsRow base e size v n xs) : ∃ a cap, v = .slice a n cap := by
  rcases h.2 with ⟨hv, h0⟩ | ⟨g, cap, cur, hv, r⟩
  · exact ⟨none, 0, by rw [hv, h0]⟩
  · exact ⟨_, _, hv⟩

/-- a list of numbers as cells -/
def ints (l : List Int) : List Value := l.map (Value.int .i64)
theorem ints_len (l : List Int) : (ints l).length = l.length := List.length_map ..
theorem ints_append (l : List Int) (x : Int) : ints l ++ [.int .i64 x] = ints (l ++ [x]) := by simp [ints]

/-- what Explode answers: a row of the call's own -/
def OwnInts (base : Nat) (w : World) (v : Value) (l : List Int) : Prop := w.ownsRow base 3 1 v l.length (ints l)

def IsOwn (l : List Int) (w w' : World) (e : Ending) : Prop := ∃ v, e = .returned v ∧ OwnInts w.heap.size w' v l ∧ Below w.heap.size w w'

set_option maxHeartbeats 400000 in
set_option maxRecDepth 100000 in
theorem refExplode_any (s : ByteArray) (w : World) (hs : s.size ≤ 17592186044416) :
    Calls Try.prog 30 #[.string s] w fun e w' => IsOwn (explode s.data.toList) w w' e := by
  obtain ⟨i0, hi, hz0, hz1, hz2⟩ := info_parts info_int
  have hsz := Lib.size_eq s
  have HSZ := Lib.hid hsz
  clear hsz
  go_enter Try.func30, Try.ntmps30
  go_wp2
  go_loopw [3, 4] (fun v a wr => ∃ (k : Nat) (acc : List Int), k ≤ s.size ∧ a = .int .i64 k ∧ OwnInts w.heap.size wr v acc ∧ Hid (explode s.data.toList = acc ++ explode (s.data.toList.drop k)) ∧ acc.length ≤ k ∧ Below w.heap.size w wr) (fun _ a _ => s.size - (intOf a).toNat)
  case atStart => exact ⟨0, [], Nat.zero_le _, rfl, World.ownsRow_nil _ _ _ _, rfl, Nat.le_refl _, Below.refl _ _⟩
  case round =>
    obtain ⟨k, acc, hk, rfl, hown, hv, hal, hb⟩ := hrel
    by_cases hlt : k < s.size
    · have hext := drop_extract s k
      have hne : (s.data.toList.drop k).length ≠ 0 := by rw [List.length_drop, ← HSZ.out]; omega
      have hn := dec_n _ hne
      have HL := Lib.hid (show (s.data.toList.drop k).length = s.size - k by rw [List.length_drop, ← HSZ.out])
      have hn3 : (dec (s.data.toList.drop k)).2 ≤ s.size - k := by rw [← HL.out]; exact hn.2.2
      have hD : Calls Try.prog 53 #[.string (s.extract k s.size)] wr fun e w' => e = .returned (.tuple #[.int .i64 (dec (s.data.toList.drop k)).1, .int .i64 (dec (s.data.toList.drop k)).2, .bool (decOk (s.data.toList.drop k))]) ∧ Below wr.heap.size wr w' := by
        have := refDecode_any (s.extract k s.size) wr (by rw [Lib.size_eq, hext, HL.out]; unfold maxLen; omega)
        rw [hext] at this
        exact this
      have hst := explode_cons _ hne
      rw [List.drop_drop] at hst
      have hle := dec_le (s.data.toList.drop k)
      have HNE := Lib.hid hne
      clear hext hne
      generalize explode (s.data.toList.drop k) = V at hv hst
      generalize (dec (s.data.toList.drop k)).1 = r at hD hle hst
      generalize (dec (s.data.toList.drop k)).2 = n at hD hn hst hle hn3
      generalize decOk (s.data.toList.drop k) = ok at hD
      have HD := Lib.hid hD
      have HST := Lib.hid hst
      clear hD hst
      obtain ⟨hn1, hn2, _⟩ := hn
      go_wp2_with (go_at_call 53; refine HD.out.mono ?_)
      rintro e w1 ⟨rfl, hb1⟩
      have hown1 : w1.ownsRow w.heap.size 3 1 _ acc.length (ints acc) := own_below hown hb1
      have hsz1 := hb1.size
      have hsz0 := hb.size
      go_wp2_with (at_builtin; refine wpList_append_own _ rfl _ _ 35 rfl w.heap.size 3 i0 (.int .i64 0) 1 8 Try.underlying35 hi hz0 hz1 hz2 rfl (by decide) _ _ _ rfl (hown1.alloc _) ⟨w1.heap.size, 0, none⟩ 1 1 [.int .i64 r] rfl rfl ?c1 ?c2 ?c3 ?c4 ?c5 ?_)
      case c1 => exact cell_one_new _ _ _
      case c2 => intro u hu; simp at hu; subst hu; rfl
      case c3 => unfold maxLen; omega
      case c4 => omega
      case c5 => simp; omega
      intro v' w2 hown' hgrow _
      go_wp2
      go_roundw
      case rel =>
        refine ⟨k + n, acc ++ [(r : Int)], by omega, by go_num, ?_, ?_, by simp; omega, ?_⟩
        · unfold OwnInts; rw [← ints_append, List.length_append]; exact hown'
        · show _ = _; rw [hv.out, HST.out]; simp
        · exact ((hb.trans (hb1.mono hb.size)).alloc (by omega) _).grown hgrow (by simp; omega) (fun j hj => (hown1.lt j hj).1)
      case measure => simp [intOf]; omega
    · have hd : explode (s.data.toList.drop k) = [] := explode_nil _ (by rw [List.length_drop, ← HSZ.out]; omega)
      have HD := Lib.hid hd
      clear hd
      go_wp2
      go_ret
      refine ⟨_, rfl, ?_, hb⟩
      have := hv.out
      rw [HD.out, List.append_nil] at this
      rw [this]
      exact hown

end Go.Proofs.Ytoniccokohjenaa
