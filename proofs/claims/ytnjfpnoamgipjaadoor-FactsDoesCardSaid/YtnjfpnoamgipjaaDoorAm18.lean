/-
Arguments of their types, taken apart.
-/
import Derived.Test.YtnjfpnoamgipjaaDoorAm17
set_option linter.unusedVariables false
set_option linter.unusedSimpArgs false
namespace Go.AM
section
variable {P:Program}
theorem TyC.pos {t:TypeId}{xs:List PV}{m:Nat}(h:TyC P t xs m):1 ≤ m := by
  cases h <;> omega
theorem ty_int {t:TypeId}{k:IntKind}{xs:List PV}{m:Nat}(h:TyC P t xs m)(hu:P.underlying t = some (.int k)):∃ z,xs = [.v (.int k z)] ∧ (Lit.int k z).wf = true := by
  cases h with
  | int n h hw => rw [hu] at h; cases h; exact ⟨n,rfl,hw⟩
  | bool _ h => rw [hu] at h; cases h
  | str _ h => rw [hu] at h; cases h
  | nil h => rw [hu] at h; cases h
  | sl _ h => rw [hu] at h; cases h
  | struct _ h => rw [hu] at h; cases h
  | arr _ h => rw [hu] at h; cases h
theorem ty_bool {t:TypeId}{xs:List PV}{m:Nat}(h:TyC P t xs m)(hu:P.underlying t = some .bool):∃ b,xs = [.v (.bool b)] := by
  cases h with
  | bool b h => exact ⟨b,rfl⟩
  | int _ h => rw [hu] at h; cases h
  | str _ h => rw [hu] at h; cases h
  | nil h => rw [hu] at h; cases h
  | sl _ h => rw [hu] at h; cases h
  | struct _ h => rw [hu] at h; cases h
  | arr _ h => rw [hu] at h; cases h
theorem tyArgs_cons {t:TypeId}{ts:List TypeId}{avs:List AV}{m:Nat}(h:TyArgs P (t :: ts) avs m):∃ xs avs' m',avs = argAV P t xs :: avs' ∧ TyC P t xs m ∧ TyArgs P ts avs' m' ∧ m' ≤ m := by
  cases h with
  | cons h h' hm => exact ⟨_,_,_,rfl,h.mono (by omega),h',by omega⟩
theorem TyArgs.mono {ts:List TypeId}{avs:List AV}{m m':Nat}(h:TyArgs P ts avs m)(hm:m ≤ m'):TyArgs P ts avs m' := by
  cases h with
  | nil => exact .nil _
  | cons h h' h1 => exact .cons h h' (by omega)
theorem tyArgs_nil {avs:List AV}{m:Nat}(h:TyArgs P [] avs m):avs = [] := by
  cases h; rfl
def structIs (P:Program)(t:TypeId)(l:List (TypeId × Nat)):Bool :=
  match P.underlying t with
  | some (.struct fs) => decide (fs.toList.map (fun f => (f.type,f.offset)) = l)
  | _ => false
end
end Go.AM

