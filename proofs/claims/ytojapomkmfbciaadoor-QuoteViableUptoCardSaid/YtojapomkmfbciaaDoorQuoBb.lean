/-
  The walk of the law QuoteBack (chapter 5).
-/
import Derived.Test.YtojapomkmfbciaaDoorQuoBa
import Derived.Test.YtojapomkmfbciaaDoorQuoBc
import Derived.Test.YtojapomkmfbciaaDoorQuoW
namespace Go.Proofs.YtojapomkmfbciaaDoor
open Go.RowKit

theorem conv_run (w : World) (z : List UInt8) : (convert 9 26 (.string ⟨z.toArray⟩)).run Tryd.prog w = .ok (.slice (some ⟨w.heap.size, 0, none⟩) z.length (grownCap w z.length 0 5)) (Lib.bytesWorld w 5 ⟨z.toArray⟩) :=
  Lib.run_convert_string_bytes (P := Tryd.prog) w 9 26 5 ⟨z.toArray⟩ Tryd.underlying9 Tryd.underlying26 Tryd.underlying5
theorem bytes_below (w : World) (z : List UInt8) : Below w.heap.size w (Lib.bytesWorld w 5 ⟨z.toArray⟩) :=
  ⟨rfl, rfl, rfl, by rw [Lib.bytesWorld_size]; omega, fun k hk => Lib.bytesWorld_at_old w _ _ k hk⟩
theorem conv_rd (w : World) (z : List UInt8) (hz : z.length ≤ maxLen) : RdB (Lib.bytesWorld w 5 ⟨z.toArray⟩) (some ⟨w.heap.size, 0, none⟩) z.length z ∧ z.length ≤ grownCap w z.length 0 5 := by
  obtain ⟨g, cap, e, h1, h2⟩ := (conv_str w z hz).rd
  injection e with e1 _ e3
  injection e1 with e1
  subst e3
  rw [e1]
  exact ⟨h2, h1⟩

theorem is_conv (W : World) (hT : Tabs W) (z key : List UInt8) (hz : z.length ≤ 17592186044416) (h0 : 0 < z.length) (hq : bt z 0 = 34) (hk : key.length ≤ 17592186044416) (R : Bool) (hR : isP z key = R) :
    Calls Tryd.prog 18 #[.slice (some ⟨W.heap.size, 0, none⟩) z.length (grownCap W z.length 0 5), .string ⟨key.toArray⟩] (Lib.bytesWorld W 5 ⟨z.toArray⟩) fun e w' => e = .returned (.bool R) ∧ Below W.heap.size W w' := by
  have hb := bytes_below W z
  have hc := conv_rd W z (by unfold maxLen; omega)
  subst hR
  have h : Calls Tryd.prog 18 #[.slice (some ⟨W.heap.size, 0, none⟩) z.length (grownCap W z.length 0 5), .string ⟨key.toArray⟩] (Lib.bytesWorld W 5 ⟨z.toArray⟩) fun e w' => e = .returned (.bool (isP z key)) ∧ Below (Lib.bytesWorld W 5 ⟨z.toArray⟩).heap.size (Lib.bytesWorld W 5 ⟨z.toArray⟩) w' := by
    by_cases hv : valid key = key.length
    · exact quoIs_yes _ _ _ z key _ (hT.below hb (Nat.le_refl _)) hc.1 hz hc.2 h0 hq hk hv
    · exact quoIs_bad _ _ _ z key _ (hT.below hb (Nat.le_refl _)) hc.1 hz h0 hq hk hv
  exact h.mono fun e w' h => ⟨h.1, hb.trans (h.2.mono hb.size)⟩
theorem plain_conv (W : World) (hT : Tabs W) (z t : List UInt8) (hz : z.length ≤ 17592186044416) (h0 : 0 < z.length) (hr : readP z = (t, z.length, 0)) (ht : t.length ≤ 1099511627776) (R : Bool) (hR : R = decide (writtenP false t = z)) :
    Calls Tryd.prog 19 #[.slice (some ⟨W.heap.size, 0, none⟩) z.length (grownCap W z.length 0 5)] (Lib.bytesWorld W 5 ⟨z.toArray⟩) fun e w' => e = .returned (.bool R) ∧ Below W.heap.size W w' := by
  have hb := bytes_below W z
  have hc := conv_rd W z (by unfold maxLen; omega)
  exact (quoPlain_yes _ _ _ z t _ (hT.below hb (Nat.le_refl _)) hc.1 hz hc.2 h0 hr ht R hR).mono fun e w' h => ⟨h.1, hb.trans (h.2.mono hb.size)⟩

theorem wpList_append_conv {P : Program} (w : World) {ops : Array Oper} {rest : List Oper} {o : Oper} {a : Act} {Q : Exit → Act → World → Prop} (hgd : o.guard = none) (s x : Operand) (t e : TypeId)
    (ho : o.op = .call { callee := .builtin .append, args := #[s, x], argTypes := #[t, t] }) (base : Nat) (i : TypeInfo) (z : Value) (ht : P.underlying t = some (.slice e)) (hi : P.info? e = some i) (hz : i.zero = some z) (hs1 : i.size = 1) (hby : i.bytes = 1) (hzs : z.cells.size = 1)
    (v : Value) (l m : List UInt8) (A : Option Addr) (n cap2 : Nat) (hs : a.eval s = v) (hx : a.eval x = .slice A n cap2) (hv : Conv base e w v l) (hR : RdB w A n m) (h63 : l.length + n ≤ 140737488355328) (hbase : base ≤ w.heap.size)
    (h : ∀ g cap w', l.length + n ≤ cap → RdB w' (some ⟨g, 0, none⟩) (l.length + n) (l ++ m) → Below base w w' → wpList P ops Q rest (a.put o.dst (.slice (some ⟨g, 0, none⟩) (l.length + n) cap)) w') : wpList P ops Q (o :: rest) a w := by
  refine wpList_plain hgd fun K hK => ?_
  have hn := hR.1
  subst hn
  obtain ⟨v', w', hr, ⟨g, cap, rfl, h1, h2⟩, h3⟩ := run_append_conv (P := P) w t o.type e i z base ht hi hz hs1 hby hzs v l m A cap2 hv hR h63 hbase
  unfold Oper.wp execOp
  simp only [ho, resolve, invoke, builtin, Sem.run_bind, Sem.run_pure, Result.andThen_ok, List.map_toArray, List.map_cons, List.map_nil, hs, hx, hr]
  exact hK _ _ (h g cap w' h1 h2 h3)

theorem written_clean (s : List UInt8) : writtenP false (clean s) = writtenP false s := by
  unfold writtenP
  rw [show explode (clean s) = explode s from explode_all _ (explode_pt _)]
theorem isP_written (all : Bool) (s key : List UInt8) : isP (writtenP all s) key = decide (key = clean s) := by
  have hr := read_written all s []
  rw [List.append_nil] at hr
  unfold isP
  rw [hr, decide_eq_true (show (writtenP all s).length ≠ 0 by unfold writtenP; simp), decide_eq_true (show bt (writtenP all s) 0 = 34 from rfl)]
  by_cases h : key = clean s
  · subst h
    rw [decide_eq_true (valid_clean s)]
    simp
  · rw [decide_eq_false (p := (clean s, (writtenP all s).length, 0) = (key, (writtenP all s).length, 0)) (fun e => h (by injection e with e _; exact e.symm)), decide_eq_false h, Bool.and_false]

end Go.Proofs.YtojapomkmfbciaaDoor
