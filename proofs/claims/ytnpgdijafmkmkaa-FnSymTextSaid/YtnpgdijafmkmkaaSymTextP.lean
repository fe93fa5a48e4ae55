/- Plain facts: what FormatSym writes is read back by ParseSym, and only that is read. No condition. -/
import Derived.Test.YtnpgdijafmkmkaaParse
namespace Go.Proofs.Ytnpgdijafmkmkaa
open Go.RowKit

theorem toList_mk (l : List UInt8) : ByteArray.toList ⟨l.toArray⟩ = l := by simp

theorem find_fmt (l : List UInt8) : parseSym ⟨l.toArray⟩ = (allSyms 8).find? fun g => fmtSym g.1 g.2 == l := by
  unfold parseSym isText
  rw [toList_mk]

theorem parse_fmt (t : Int) (f : Bool) (h : win t 0 3 = true) : parT ⟨(fmtSym t f).toArray⟩ = t ∧ parF ⟨(fmtSym t f).toArray⟩ = f ∧ parOk ⟨(fmtSym t f).toArray⟩ = true := by
  obtain ⟨h0, h3⟩ := win_iff.1 h
  have ht : t = 0 ∨ t = 1 ∨ t = 2 ∨ t = 3 := by omega
  have hp : parseSym ⟨(fmtSym t f).toArray⟩ = some (t, f) := by
    rw [find_fmt]
    rcases ht with rfl | rfl | rfl | rfl <;> cases f <;> decide
  unfold parT parF parOk
  rw [hp]
  exact ⟨rfl, rfl, rfl⟩

theorem parse_bad (t : Int) (f : Bool) (h : win t 0 3 = false) : parT ⟨(fmtSym t f).toArray⟩ = 0 ∧ parF ⟨(fmtSym t f).toArray⟩ = false ∧ parOk ⟨(fmtSym t f).toArray⟩ = false := by
  have e : fmtSym t f = [] := by unfold fmtSym; rw [h]; rfl
  have hp : parseSym ⟨(fmtSym t f).toArray⟩ = none := by
    rw [find_fmt, e]
    decide
  unfold parT parF parOk
  rw [hp]
  exact ⟨rfl, rfl, rfl⟩

theorem fmt_parse (s : ByteArray) (h : parOk s = true) : (fmtSym (parT s) (parF s) == s.toList) = true := by
  unfold parOk at h
  unfold parT parF
  cases hp : parseSym s with
  | none => rw [hp] at h; cases h
  | some g =>
    have := List.find?_some (p := isText s) hp
    exact this

end Go.Proofs.Ytnpgdijafmkmkaa
