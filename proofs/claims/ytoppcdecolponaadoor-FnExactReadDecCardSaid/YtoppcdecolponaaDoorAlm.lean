/- Plain words: numbers that wrap, rows of cells. -/
import Derived.Test.YtoppcdecolponaaDoorAl0
namespace Go.Proofs.YtoppcdecolponaaDoor.AL
open Go
set_option linter.unusedVariables false
theorem wrap_in (x : Int) (h : -9223372036854775808 ≤ x ∧ x ≤ 9223372036854775807) : IntKind.wrap .i64 x = x := by
 unfold IntKind.wrap
 simp only [IntKind.bits, IntKind.signed, Nat.reduceSub, Bool.true_and]
 have e1 : (2 : Int) ^ 64 = 18446744073709551616 := by decide
 have e2 : (2 : Int) ^ 63 = 9223372036854775808 := by decide
 simp only [e1, e2, decide_eq_true_eq]
 split <;> omega
theorem sub_refl (m : Mem) : sub m m := fun _ _ h => h
theorem sub_trans {a b c : Mem} (h : sub a b) (k : sub b c) : sub a c := fun _ _ e => k _ _ (h _ _ e)
theorem sub_upd {m m1 : Mem} {n : Nat} {b : Option Blk} (h : sub m m1) (hf : m n = none) : sub m (upd m1 n b) := by
 intro j x e
 simp only [upd]
 split
 · rename_i h1; rw [h1, hf] at e; cases e
 · exact h _ _ e
theorem Fresh.at {m : Mem} {n b : Nat} (h : Fresh m n) (hb : n ≤ b) : m b = none := h b hb
theorem Fresh.upd {m : Mem} {n : Nat} (h : Fresh m n) (b : Option Blk) : Fresh (upd m n b) (n + 1) := by
 intro j hj
 simp only [AL.upd]
 rw [if_neg (by omega)]
 exact h j (by omega)
def RowsAt (m : Mem) (sz : Nat) (a : Option Addr) (rows : List (List Value)) : Prop :=
 rows ≠ [] → okA a ∧ ∃ blk, m (adr a).block = some blk ∧ blk.sz = sz ∧ ∀ i r, rows[i]? = some r → r.length = sz ∧ (adr a).off + i * sz + sz ≤ blk.cells.length ∧ (blk.cells.drop ((adr a).off + i * sz)).take sz = r
theorem RowsAt.ok {m sz a rows} (h : RowsAt m sz a rows) {i : Nat} (hi : i < rows.length) : okA a := (h (by intro e; simp [e] at hi)).1
theorem RowsAt.lt {m sz a rows n} (h : RowsAt m sz a rows) (hf : Fresh m n) {i : Nat} (hi : i < rows.length) : (adr a).block < n := by
 obtain ⟨_, blk, hb, _⟩ := h (by intro e; simp [e] at hi)
 rcases Nat.lt_or_ge (adr a).block n with h1 | h1
 · exact h1
 · rw [hf _ h1] at hb; cases hb
theorem RowsAt.rdn {m sz a rows} (h : RowsAt m sz a rows) {i : Nat} {r : List Value} (hr : rows[i]? = some r) :
 rdn m ⟨(adr a).block, (adr a).off + i * sz, none⟩ sz = some r := by
 obtain ⟨_, blk, hb, _, h⟩ := h (by intro e; simp [e] at hr)
 obtain ⟨h1, h2, h3⟩ := h i r hr
 simp [AL.rdn, hb, h2, h3]
theorem RowsAt.rd {m sz a rows} (h : RowsAt m sz a rows) {i j : Nat} {r : List Value} {x : Value} (hr : rows[i]? = some r) (hj : r[j]? = some x) :
 rd m ⟨(adr a).block, (adr a).off + i * sz + j, none⟩ = some x := by
 obtain ⟨_, blk, hb, _, h⟩ := h (by intro e; simp [e] at hr)
 obtain ⟨h1, h2, h3⟩ := h i r hr
 have hjs : j < sz := by
  have := (List.getElem?_eq_some_iff.1 hj).1
  omega
 have e : r[j]? = blk.cells[(adr a).off + i * sz + j]? := by
  rw [← h3, List.getElem?_take_of_lt hjs, List.getElem?_drop]
 simp [AL.rd, hb, ← e, hj]
theorem RowsAt.mono {m m1 sz a rows} (h : RowsAt m sz a rows) (hs : sub m m1) : RowsAt m1 sz a rows := by
 intro hne
 obtain ⟨h1, blk, hb, h2⟩ := h hne
 exact ⟨h1, blk, hs _ _ hb, h2⟩
end Go.Proofs.YtoppcdecolponaaDoor.AL
