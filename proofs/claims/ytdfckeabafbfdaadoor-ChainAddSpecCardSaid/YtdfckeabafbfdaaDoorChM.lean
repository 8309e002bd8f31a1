/- The examples of the statements on package chain, at the models. Plain theorems; no condition. -/
import Derived.Test.YtdfckeabafbfdaaDoorChP
namespace Go.Proofs.YtdfckeabafbfdaaDoor.Dr
open Go.RowKit

def sA : List LinkM := [⟨3, 0, headM [], [120]⟩]
def sB : List LinkM := sA ++ [⟨3, 1, headM sA, [121]⟩]
def sC : List LinkM := sA ++ [⟨3, 1, headM sA, [122]⟩]
def zer32 : List UInt8 := List.replicate 32 0
theorem s_bad (l : List LinkM) (d : List UInt8) (h : l = [] ∨ l = sA) (hd : d.length ≤ 65536) : badM l 3 d = false := badM_of (by omega) (by omega) (fun x hx => by
  rcases h with rfl | rfl
  · simp at hx
  · simp [sA] at hx; subst hx; rfl) hd
theorem s_a : addM [] 3 [120] = (sA, 0) := addM_ok checkM_nil (s_bad _ _ (.inl rfl) (by decide)) (by decide)
theorem s_ca : checkM sA = 0 := checkM_snoc (l := []) (node := 3) (d := [120]) checkM_nil (s_bad _ _ (.inl rfl) (by decide)) (by decide)
theorem s_b : addM sA 3 [121] = (sB, 0) := addM_ok s_ca (s_bad _ _ (.inr rfl) (by decide)) (by decide)
theorem s_c : addM sA 3 [122] = (sC, 0) := addM_ok s_ca (s_bad _ _ (.inr rfl) (by decide)) (by decide)
theorem s_cb : checkM sB = 0 := checkM_snoc (l := sA) (node := 3) (d := [121]) s_ca (s_bad _ _ (.inr rfl) (by decide)) (by decide)
theorem s_cc : checkM sC = 0 := checkM_snoc (l := sA) (node := 3) (d := [122]) s_ca (s_bad _ _ (.inr rfl) (by decide)) (by decide)
theorem s_d : addM [] 24 [] = ([], 1) := addM_bad checkM_nil rfl
theorem s_e : addM sA 4 [] = ([], 1) := addM_bad s_ca rfl
theorem partM_of {l l' : List LinkM} (h1 : checkM l = 0) (h2 : checkM l' = 0) (h3 : partN l l' = false) : partM l l' = ((diffM l l').1, (diffM l l').2, 0) := by
  unfold partM
  rw [if_neg (by rw [h1]; simp), if_neg (by rw [h2]; simp), if_neg (by rw [h3]; simp)]
theorem diffM_at {l l' : List LinkM} {k : Nat} (hk : k < min l.length l'.length) (h1 : sameAt l l' k = false) (h2 : ∀ j, j < k → sameAt l l' j = true) : diffM l l' = ((k : Int), true) := by
  unfold diffM
  rw [find_range hk (fun j hj => by rw [h2 j hj]; rfl) (by rw [h1]; rfl)]
theorem diffM_none {l l' : List LinkM} (h2 : ∀ j, j < min l.length l'.length → sameAt l l' j = true) : diffM l l' = (0, false) := by
  unfold diffM
  rw [find_none (fun j hj => by rw [h2 j hj]; rfl)]
theorem s_p1 : partM sB sC = (1, true, 0) := by
  rw [partM_of s_cb s_cc rfl, diffM_at (k := 1) (by decide) ?_ (fun j hj => ?_)]
  · rfl
  · have : ¬ sameAt sB sC 1 = true := fun h => by
      have := sameAt_iff.1 h ⟨3, 1, headM sA, [121]⟩ ⟨3, 1, headM sA, [122]⟩ rfl rfl
      simp at this
    simpa using this
  · obtain rfl : j = 0 := by omega
    exact sameAt_iff.2 fun x y hx hy => by simp [sB, sC, sA] at hx hy; rw [← hx, ← hy]
theorem s_p2 : partM sA sB = (0, false, 0) := by
  rw [partM_of s_ca s_cb rfl, diffM_none (fun j hj => ?_)]
  obtain rfl : j = 0 := by simp [sA, sB] at hj; omega
  exact sameAt_iff.2 fun x y hx hy => by simp [sB, sA] at hx hy; rw [← hx, ← hy]
theorem s_p3 : partM [] sA = (0, false, 0) := by
  rw [partM_of checkM_nil s_ca rfl, diffM_none (fun j hj => by simp at hj)]
theorem checkM_bad {l : List LinkM} {k : Nat} {x : LinkM} (hl : l.length ≤ 1024) (hx : l[k]? = some x) (h : x.no ≠ k) : checkM l = 80 := by
  have h1 : ¬ checkM l = 0 := fun q => h ((checkM_iff.1 q).2 k x hx).no
  unfold checkM at h1 ⊢
  rw [if_neg (by omega)] at h1 ⊢
  by_cases h2 : (List.range l.length).all (okAt l) = true
  · rw [if_pos h2] at h1; exact absurd rfl h1
  · rw [if_neg h2]
theorem s_x : checkM [⟨0, 1, zer32, []⟩] = 80 := checkM_bad (k := 0) (by decide) rfl (by decide)
theorem s_y : checkM (sB.drop 1) = 80 := checkM_bad (k := 0) (by decide) (x := ⟨3, 1, headM sA, [121]⟩) rfl (by decide)
theorem s_h0 : headM [] = tagM tNone [] := rfl
theorem s_h1 : headM sA = tagM tLink ([3, 4, 1, 6, 1, 0, 2, 32] ++ headM [] ++ [2, 1, 120]) := by
  have h0 := headM_len []
  show tagM tLink (encV (linkV ⟨3, 0, headM [], [120]⟩)) = _
  generalize headM [] = h at *
  congr 1
  have u3 : uns 3 = 6 := rfl
  have u0 : uns 0 = 0 := rfl
  simp [linkV, encV, encL, h0, u3, u0, numl_small]
theorem s_lens : sA.length = 1 ∧ sB.length = 2 ∧ sC.length = 2 := ⟨rfl, rfl, rfl⟩
theorem s_dl (l : List LinkM) (h : l = [] ∨ l = sA ∨ l = sB ∨ l = sC) : ∀ x ∈ l, x.data.length ≤ 100000 := by
  rcases h with rfl | rfl | rfl | rfl <;> intro x hx <;> simp [sA, sB, sC] at hx <;> (try (rcases hx with rfl | rfl)) <;> (try subst hx) <;> decide
theorem sl_drop {α : Type} {m n : Nat} {R : World → List Value → α → Prop} {w : World} {b off : Nat} {l : List α} (k : Nat) (hk : k ≤ n) (h : Sl m R w (some ⟨b, off, none⟩) n l) : Sl m R w (some ⟨b, off + k * m, none⟩) (n - k) (l.drop k) := by
  obtain ⟨hl, h⟩ := h
  refine ⟨by rw [List.length_drop, hl], ?_⟩
  rcases h with rfl | ⟨b', off', h, hc⟩
  · exact .inl (by omega)
  · cases h
    refine .inr ⟨b, _, rfl, fun i x hx => ?_⟩
    rw [List.getElem?_drop] at hx
    obtain ⟨L, g1, g2, g3⟩ := hc _ x hx
    refine ⟨L, g1, g2, fun j v hv => ?_⟩
    have := g3 j v hv
    rw [Nat.add_mul] at this
    rw [← this]
    congr 2
    omega
end Go.Proofs.YtdfckeabafbfdaaDoor.Dr
