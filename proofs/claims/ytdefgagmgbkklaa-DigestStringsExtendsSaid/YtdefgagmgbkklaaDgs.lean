/- The digest of a list of strings, plainly. No program in sight. -/
import Derived.Test.YtdefgagmgbkklaaPre
import Derived.Lib.ConvBytes
set_option linter.unusedVariables false
namespace Go.Proofs.Ytdefgagmgbkklaa.Pre
open Go.RowKit Go.Proofs.YtdefgagmgbkklaaW.PrintWords

/-- From the string of index i on, h being the digest of what comes before. -/
def dsGo : List ByteArray → Int → Int → Int × Int × Int
  | [], _, h => (h, 0, 0)
  | s :: r, i, h => if 4096 < s.size then (0, 2, i) else dsGo r (i + 1) (digPair h (dig (bytesOf s)))
def digStrings (l : List ByteArray) : Int × Int × Int := if 120 < l.length then (0, 2, -1) else dsGo l 0 2
theorem dsGo_drop (l : List ByteArray) (i : Nat) (h : Int) (hi : i < l.length) : dsGo (l.drop i) i h = if 4096 < (rdOf ByteArray.empty l (i : Int)).size then (0, 2, (i : Int)) else dsGo (l.drop (i + 1)) ((i + 1 : Nat) : Int) (digPair h (dig (bytesOf (rdOf ByteArray.empty l (i : Int))))) := by
  rw [rdOf_drop ByteArray.empty l i hi, dsGo]
  rfl
theorem dsGo_append (a : List ByteArray) (s : ByteArray) : ∀ (i h : Int), dsGo (a ++ [s]) i h = if (dsGo a i h).2.1 = 0 then (if 4096 < s.size then (0, 2, i + a.length) else (digPair (dsGo a i h).1 (dig (bytesOf s)), 0, 0)) else dsGo a i h := by
  induction a with
  | nil => intro i h; simp [dsGo]
  | cons x r ih =>
    intro i h
    rw [List.cons_append, dsGo]
    by_cases c : 4096 < x.size
    · simp [dsGo, c]
    · rw [if_neg c, ih, dsGo, if_neg c]
      simp only [List.length_cons]
      congr 2
      rw [show ((r.length + 1 : Nat) : Int) = (r.length : Int) + 1 by omega]
      rw [show i + 1 + (r.length : Int) = i + ((r.length : Int) + 1) by omega]
theorem dsGo_range (a : List ByteArray) : ∀ (i h : Int), 0 ≤ h → h < 2305843009213693951 → 0 ≤ (dsGo a i h).1 ∧ (dsGo a i h).1 < 2305843009213693951 := by
  induction a with
  | nil => intro i h h0 h1; exact ⟨h0, h1⟩
  | cons x r ih =>
    intro i h h0 h1
    rw [dsGo]
    split
    · exact ⟨Int.le_refl _, (by decide : (0 : Int) < 2305843009213693951)⟩
    · exact ih _ _ (digPair_range _ _).1 (digPair_range _ _).2
end Go.Proofs.Ytdefgagmgbkklaa.Pre
