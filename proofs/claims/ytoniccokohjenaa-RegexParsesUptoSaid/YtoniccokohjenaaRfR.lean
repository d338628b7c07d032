/-
  The knot of the reference's parser (chapter 18): alt within so many groups; its Parse.
-/
import Derived.Test.YtoniccokohjenaaRfO
import Derived.Test.YtoniccokohjenaaRfK
import Derived.Test.YtoniccokohjenaaRfL
import Derived.Test.YtoniccokohjenaaRfN
import Derived.Test.YtoniccokohjenaaRfP
import Derived.Test.YtoniccokohjenaaRfQ
namespace Go.Proofs.Ytoniccokohjenaa
open Go.RowKit

/-- alt within so many groups -/
theorem rfAltF (L : LX) (l : List Int) : ∀ (n : Nat) (s : PS) (p : PX) (w : World), s.deep + n = 51 → Lv w L l s p →
    Calls Try.prog 31 #[pAgg L p] w (RxP L l w (altF L.free l n s))
  | 0, s, p, w, hd, h => absurd h.fin.deep (by omega)
  | n + 1, s, p, w, hd, h =>
    have hadv := fun s v s' hh => altF_adv n s s' v hh
    rfAlt_any L l s p w (altF L.free l n) hadv (fun s1 p1 W1 hd1 h1 =>
      rfSeq_any L l s1 p1 W1 (altF L.free l n) hadv (fun s2 p2 W2 hd2 hlt h2 =>
        rfPart_any L l s2 p2 W2 (altF L.free l n) hadv hlt (fun W3 h3 =>
          rfAtom_any L l s2 p2 W3 (altF L.free l n) hlt (fun h40 W4 h4 =>
            rfGroup_any L l s2 p2 W4 (altF L.free l n) hadv h40 (fun hdd s5 p5 W5 hd5 h5 => rfAltF L l n s5 p5 W5 (by omega) h5) h4)
            (fun s4 p4 W4 h4 => rfSet_any L l s4 p4 W4 h4) h3) h2) h1) h

theorem refParse_any {s : ByteArray} {free : Bool} {r : Rx × List (List UInt8) × Nat × Nat} (h : parseV s.data.toList free = r) (hs : s.size ≤ 17592186044416) (w : World) :
    Calls Try.prog 13 #[.string s, .bool free] w (PrsF r w) := by
  subst h
  exact refParse_of (fun L l s p W hd h => rfAltF L l 51 s p W hd h) s free w hs

end Go.Proofs.Ytoniccokohjenaa
