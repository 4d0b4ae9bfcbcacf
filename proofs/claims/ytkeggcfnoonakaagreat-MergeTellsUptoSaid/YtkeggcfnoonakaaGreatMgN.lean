
/-
  Merge: what the pieces are (plain).
-/
import Derived.Test.YtkeggcfnoonakaaGreatMgM
set_option linter.unusedSimpArgs false
set_option linter.unusedVariables false
namespace Go.Proofs.YtkeggcfnoonakaaGreat
open Go.RowKit

def Adj {α : Type} (R : α → α → Prop) (L : List α) : Prop := ∀ i x y, L[i]? = some x → L[i + 1]? = some y → R x y
theorem adj_snoc {α : Type} {R : α → α → Prop} {X : List α} {y : α} : Adj R (X ++ [y]) ↔ Adj R X ∧ ∀ z, X.getLast? = some z → R z y := by
  constructor
  · intro h
    refine ⟨fun i a b ha hb => h i a b ?_ ?_, fun z hz => ?_⟩
    · rw [List.getElem?_append_left (List.getElem?_eq_some_iff.1 ha).1]; exact ha
    · rw [List.getElem?_append_left (List.getElem?_eq_some_iff.1 hb).1]; exact hb
    · obtain ⟨X', rfl⟩ := List.getLast?_eq_some_iff.1 hz
      exact h X'.length z y (by simp) (by simp)
  · rintro ⟨h1, h2⟩ i a b ha hb
    have hl := (List.getElem?_eq_some_iff.1 hb).1
    rw [List.length_append, List.length_singleton] at hl
    rw [List.getElem?_append_left (by omega)] at ha
    rcases Nat.lt_or_ge (i + 1) X.length with h | h
    · rw [List.getElem?_append_left h] at hb
      exact h1 i a b ha hb
    · have hi : i + 1 = X.length := by omega
      rw [hi] at hb
      simp at hb
      subst hb
      refine h2 a ?_
      rw [List.getLast?_eq_getElem?, ← hi]
      exact ha
theorem adj_nil {α : Type} {R : α → α → Prop} : Adj R [] := fun i x y h => by simp at h
def keyFst (g : List KV) : ByteArray := match g.head? with
  | none => ByteArray.empty
  | some q => q.1
def Apart (hd : ByteArray → ByteArray) (x y : List KV) : Prop := hd (keyLast x) ≠ hd (keyFst y)
theorem keyFst_app {x y : List KV} (h : x ≠ []) : keyFst (x ++ y) = keyFst x := by
  cases x with
  | nil => exact absurd rfl h
  | cons a x => rfl
theorem keyLast_app {x y : List KV} (h : y ≠ []) : keyLast (x ++ y) = keyLast y := by
  rcases List.eq_nil_or_concat y with h1 | ⟨a, b, h1⟩
  · exact absurd h1 h
  · rw [h1, List.concat_eq_append, ← List.append_assoc]
    unfold keyLast
    rw [List.getLast?_eq_some_iff.2 ⟨x ++ a, rfl⟩, List.getLast?_eq_some_iff.2 ⟨a, rfl⟩]
theorem grp_adj (hd : ByteArray → ByteArray) (l : List KV) : Adj (Apart hd) (grp hd l) := by
  refine snoc_ind (P := fun l => Adj (Apart hd) (grp hd l)) ?_ (fun l p ih => ?_) l
  · exact adj_nil
  · rw [grp_snoc]
    have hne := grp_ne (hd := hd) l
    obtain ⟨G, hG⟩ : ∃ G, grp hd l = G := ⟨_, rfl⟩
    rw [hG] at ih hne ⊢
    unfold addG
    split
    · exact adj_snoc (X := []).2 ⟨adj_nil, fun z hz => by simp at hz⟩
    · rename_i g hg
      obtain ⟨X, rfl⟩ := List.getLast?_eq_some_iff.1 hg
      obtain ⟨h1, h2⟩ := adj_snoc.1 ih
      split
      · rw [List.dropLast_concat]
        refine adj_snoc.2 ⟨h1, fun z hz => ?_⟩
        have := h2 z hz
        unfold Apart at this ⊢
        rw [keyFst_app (hne g (by simp))]
        exact this
      · rename_i hn
        refine adj_snoc.2 ⟨ih, fun z hz => ?_⟩
        rw [hg] at hz
        obtain rfl := Option.some.inj hz
        exact hn
structure SpQ (hd : ByteArray → ByteArray) (sz : Int) (G X : List (List KV)) (n : Int) : Prop where
  flat : X.flatten = G.flatten
  ne : ∀ x ∈ X, x ≠ []
  emp : X = [] → n = sz
  last : ∀ y, X.getLast? = some y → n = (bytesL y : Int) ∧ ∃ g, G.getLast? = some g ∧ keyLast y = keyLast g
  big : Adj (fun x _ => sz ≤ (bytesL x : Int)) X
  adj : Adj (Apart hd) X
theorem spq (hd : ByteArray → ByteArray) (sz : Int) (G : List (List KV)) : (∀ g ∈ G, g ≠ []) → Adj (Apart hd) G → SpQ hd sz G (spl G sz).1 (spl G sz).2 := by
  refine snoc_ind (P := fun G => (∀ g ∈ G, g ≠ []) → Adj (Apart hd) G → SpQ hd sz G (spl G sz).1 (spl G sz).2) ?_ (fun G g ih => ?_) G
  · intro _ _
    exact ⟨rfl, fun x hx => by simp [spl] at hx, fun _ => rfl, fun y hy => by simp [spl] at hy, adj_nil, adj_nil⟩
  · intro hne hadj
    obtain ⟨ha1, ha2⟩ := adj_snoc.1 hadj
    have hq := ih (fun x hx => hne x (List.mem_append_left _ hx)) ha1
    have hg := hne g (by simp)
    rw [spl_snoc]
    obtain ⟨X, hX⟩ : ∃ X, spl G sz = X := ⟨_, rfl⟩
    rw [hX] at hq ⊢
    obtain ⟨X, n⟩ := X
    simp only at hq
    by_cases hs : sz ≤ n
    · rw [spStep_new hs]
      refine ⟨?_, fun x hx => ?_, fun h => by simp at h, fun y hy => ?_, adj_snoc.2 ⟨hq.big, fun z hz => ?_⟩, adj_snoc.2 ⟨hq.adj, fun z hz => ?_⟩⟩
      · simp [hq.flat]
      · rcases List.mem_append.1 hx with hx | hx
        · exact hq.ne x hx
        · rw [List.mem_singleton] at hx; subst hx; exact hg
      · have : g = y := by simpa using hy
        subst this
        exact ⟨rfl, g, by simp, rfl⟩
      · have := (hq.last z hz).1; omega
      · obtain ⟨_, g', h1, h2⟩ := hq.last z hz
        have h3 := ha2 g' h1
        unfold Apart at h3 ⊢
        rw [h2]
        exact h3
    · rcases List.eq_nil_or_concat X with h0 | ⟨X', y, h0⟩
      · have := hq.emp h0; omega
      · rw [List.concat_eq_append] at h0
        subst h0
        rw [spStep_last (by omega)]
        obtain ⟨hb1, hb2⟩ := adj_snoc.1 hq.big
        obtain ⟨hc1, hc2⟩ := adj_snoc.1 hq.adj
        have hy := hq.ne y (by simp)
        refine ⟨?_, fun x hx => ?_, fun h => by simp at h, fun z hz => ?_, adj_snoc.2 ⟨hb1, hb2⟩, adj_snoc.2 ⟨hc1, fun z hz => ?_⟩⟩
        · have := hq.flat
          simp at this ⊢
          rw [← this]
          simp
        · rcases List.mem_append.1 hx with hx | hx
          · exact hq.ne x (List.mem_append_left _ hx)
          · rw [List.mem_singleton] at hx; subst hx; simp [hy]
        · have : y ++ g = z := by simpa using hz
          subst this
          have h1 := (hq.last y (by simp)).1
          refine ⟨by rw [bytesL_app]; simp only; omega, g, by simp, keyLast_app hg⟩
        · have h3 := hc2 z hz
          unfold Apart at h3 ⊢
          rw [keyFst_app hy]
          exact h3
/-- Pieces of one byte at least are the groups, if each group but the last has a byte. -/
theorem even_init {G : List (List KV)} {g : List KV} (h : EvenG (G ++ [g])) : EvenG G ∧ ∀ z, G.getLast? = some z → bytesL z ≠ 0 := by
  refine ⟨fun i hi => ?_, fun z hz => ?_⟩
  · have := h i (by simp; omega)
    rwa [List.getElem_append_left (by omega)] at this
  · obtain ⟨X, rfl⟩ := List.getLast?_eq_some_iff.1 hz
    have := h X.length (by simp)
    simpa using this
theorem even_spl (G : List (List KV)) : EvenG G → (spl G 1).1 = G ∧ (∀ y, G.getLast? = some y → (spl G 1).2 = (bytesL y : Int)) ∧ (G = [] → (spl G 1).2 = 1) := by
  refine snoc_ind (P := fun G => EvenG G → (spl G 1).1 = G ∧ (∀ y, G.getLast? = some y → (spl G 1).2 = (bytesL y : Int)) ∧ (G = [] → (spl G 1).2 = 1)) ?_ (fun G g ih => ?_) G
  · intro _
    exact ⟨rfl, fun y hy => by simp at hy, fun _ => rfl⟩
  · intro hE
    obtain ⟨h1, h2⟩ := even_init hE
    obtain ⟨e1, e2, e3⟩ := ih h1
    rw [spl_snoc]
    obtain ⟨X, hX⟩ : ∃ X, spl G 1 = X := ⟨_, rfl⟩
    rw [hX] at e1 e2 e3 ⊢
    obtain ⟨X, n⟩ := X
    simp only at e1 e2 e3
    subst e1
    have hn : 1 ≤ n := by
      rcases List.eq_nil_or_concat X with h0 | ⟨X', y, h0⟩
      · have := e3 h0; omega
      · rw [List.concat_eq_append] at h0
        have hl : X.getLast? = some y := by rw [h0]; simp
        have := e2 y hl
        have := h2 y hl
        omega
    rw [spStep_new hn]
    exact ⟨rfl, fun y hy => by
      have : g = y := by simpa using hy
      rw [this], fun h => by simp at h⟩
theorem same_even (hd : ByteArray → ByteArray) (l : List KV) : (decide (grp hd l = (spl (grp hd l) 1).1) == evD (grp hd l)) = true := by
  by_cases h : EvenG (grp hd l)
  · rw [evD_true h, (even_spl _ h).1]
    simp
  · have hn : ¬ grp hd l = (spl (grp hd l) 1).1 := fun e => h (fun i hi => by
      have hq := spq hd 1 (grp hd l) (grp_ne (hd := hd) l) (grp_adj hd l)
      rw [← e] at hq
      have := hq.big i _ _ (List.getElem?_eq_getElem (by omega)) (List.getElem?_eq_getElem hi)
      simp only at this
      omega)
    rw [evD_false h, decide_eq_false hn]
    rfl
end Go.Proofs.YtkeggcfnoonakaaGreat
