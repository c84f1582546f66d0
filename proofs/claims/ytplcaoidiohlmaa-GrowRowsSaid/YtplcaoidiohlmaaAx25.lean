/- Cutting a walk: what is known between two places is all that the rest is told. -/
import Derived.Test.YtplcaoidiohlmaaAx24
namespace Go.Ax
open Go
section
variable {P : Program} {s : Bool} {d : Option Nat} {l : List SO} {K : Env → Fz → Hp → Prop} {σ : Env} {F : Fz} {M : Hp} {c : SC} {Q : Post}
/-- The variables are forgotten, but for what is said of them. -/
theorem forget (h : ∀ σ', (∀ k v, look σ k = some v → look σ' k = some v) → opsW P s l K σ' F M) : opsW P s l K σ F M := h σ fun _ _ h => h
theorem forgetW (h : ∀ σ', (∀ k v, look σ k = some v → look σ' k = some v) → W P c Q σ' F M) : W P c Q σ F M := h σ fun _ _ h => h
/-- A region is walked up to its end, where I is known. -/
theorem ops_cut (I : Env → Fz → Hp → Prop) (h : opsW P s l I σ F M) (hk : ∀ σ F M, I σ F M → K σ F M) : opsW P s l K σ F M := opsW_mono hk h
def cutQ (I : Env → Fz → Hp → Prop) (Q : Post) : Post
  | .n => I
  | x => Q x
@[go_sem] theorem cut_n {I : Env → Fz → Hp → Prop} : cutQ I Q .n σ F M = I σ F M := rfl
@[go_sem] theorem cut_r {I : Env → Fz → Hp → Prop} : cutQ I Q .r σ F M = Q .r σ F M := rfl
@[go_sem] theorem cut_e {I : Env → Fz → Hp → Prop} {i : Nat} : cutQ I Q (.e i) σ F M = Q (.e i) σ F M := rfl
/-- The first of two is walked up to its end, where I is known. -/
theorem cut {a b : SC} (I : Env → Fz → Hp → Prop) (h : W P a (cutQ I (Post.andThen (W P b Q) Q)) σ F M) (hn : ∀ σ F M, I σ F M → W P b Q σ F M) : W P (.seq a b) Q σ F M := by
  rw [W_seq]
  exact W_mono (fun x σ F M hx => by
    cases x
    · exact hn _ _ _ hx
    · exact hx
    · exact hx) h
/-- A code is walked up to its end, where I is known. -/
theorem cutW (I : Env → Fz → Hp → Prop) (h : W P c (cutQ I Q) σ F M) (hn : ∀ σ F M, I σ F M → Q .n σ F M) : W P c Q σ F M :=
  W_mono (fun x σ F M hx => by
    cases x
    · exact hn _ _ _ hx
    · exact hx
    · exact hx) h
end
end Go.Ax
