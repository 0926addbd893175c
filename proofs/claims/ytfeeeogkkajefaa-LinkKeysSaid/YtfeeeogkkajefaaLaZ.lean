/- A key that is changed: what linking answers then. No conditions. -/
import Derived.Test.YtfeeeogkkajefaaLaX
import Derived.Test.YtfeeeogkkajefaaLkC
import Derived.Laws.Bits64
namespace Go.Proofs.Ytfeeeogkkajefaa
open Go.RowKit
set_option linter.unusedVariables false
set_option linter.unusedSimpArgs false

theorem rekey_reverse {l : List ObjD} {K p : Nat} (hp : l.length - 1 - K = p) (hK : K < l.length) {ok : ObjD} (h : l[K]? = some ok) (key : Int) : (rekey l K key).reverse = l.reverse.set p { ok with key := key } := by
  have e : l.getD K zeroObj = ok := by simp [List.getD, h]
  unfold rekey
  rw [e]
  apply List.ext_getElem?
  intro i
  by_cases hi : i < l.length
  · rw [List.getElem?_reverse (by simpa using hi), List.length_set, List.getElem?_set, List.getElem?_set, List.length_reverse, List.getElem?_reverse hi]
    by_cases e : p = i
    · subst e
      rw [if_pos (by omega), if_pos (by omega), if_pos rfl, if_pos hi]
    · rw [if_neg (by omega), if_neg e]
  · rw [List.getElem?_eq_none (by simp; omega), List.getElem?_eq_none (by simp; omega)]
theorem key_xor {a b kx : Int} (ha : 0 ≤ a ∧ a < 18446744073709551616) (hb : 0 ≤ b ∧ b < 18446744073709551616) (h : bits .xor .u64 a b = kx) : kx = a ↔ b = 0 := by
  obtain ⟨m, rfl⟩ := Int.eq_ofNat_of_zero_le ha.1
  obtain ⟨n, rfl⟩ := Int.eq_ofNat_of_zero_le hb.1
  rw [bits_xor_u64_nat m n (by omega) (by omega)] at h
  rw [← h]
  constructor
  · intro e
    have := xor_same.1 (Int.ofNat.inj e)
    omega
  · intro e
    have : n = 0 := by omega
    rw [xor_same.2 this]
theorem rekeyed_ans {l : List ObjD} {main : ByteArray} {img : ImgD} (h : LinkOk l main img) {K : Nat} {ok : ObjD} (hK : l[K]? = some ok) {kx key : Int} (hkx : kx = ok.key ↔ key = 0) {u0 : Bool} (hu : usedAt l img ok.module 0 = u0) :
    (key = 0 ∨ u0 = false → linkP (rekey l K kx).reverse main = (img, ⟨#[]⟩, 0)) ∧ (key ≠ 0 → u0 = true → ∃ m, linkP (rekey l K kx).reverse main = (noImg, m, 230)) := by
  obtain ⟨hk, e⟩ := List.getElem?_eq_some_iff.1 hK
  have hiff := usedAt_iff l img ok.module
  constructor
  · rintro (h0 | h0)
    · exact h.rekeyed_same hk kx (.inl (by rw [e]; exact hkx.2 h0))
    · refine h.rekeyed_same hk kx (.inr ?_)
      rw [e]
      intro hub
      have := hiff.2 hub
      rw [hu, h0] at this
      cases this
  · intro h0 h1
    refine h.rekeyed_mismatch hk kx ?_ ?_
    · rw [e]
      exact fun he => h0 (hkx.1 he)
    · rw [e]
      exact hiff.1 (by rw [hu, h1])
end Go.Proofs.Ytfeeeogkkajefaa
