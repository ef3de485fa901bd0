/-
Variables at the heap's end; rows of structs read and written; maps in a heap's context.
-/
import Derived.Test.YtnjfpnoamgipjaaDoorAm27
set_option linter.unusedVariables false
set_option linter.unusedSimpArgs false
namespace Go.AM
theorem atE (H:Heap)(o:AObj):(H ++ [o])[H.length]? = some o := by simp
theorem ldE (H:Heap)(xs:List AV)(n j:Nat):ld false n (.ptr H.length j) (H ++ [.box xs]) = xs[j]? := ld_box (atE H _)
theorem ldEA {H:Heap}{xs:List AV}{n:Nat}(h:xs.length = n)(h0:0 < n):ld true n (.ptr H.length 0) (H ++ [.box xs]) = some (.agg xs) := by
  rw [ldAgg_box (atE H _) (by omega) (by omega),List.drop_zero,List.take_of_length_le (by omega)]
theorem stEA {H:Heap}{xs:List AV}{ys:List PV}{n:Nat}{lo:List Nat}(h:xs.length = n)(h':ys.length = n)(h0:0 < n):stA n (.ptr H.length 0) (.agg (ys.map .p)) lo (H ++ [.box xs]) = some (H ++ [.box (ys.map .p)]) := by
  rw [stA_box (n := n) (off := 0) (y := .agg (ys.map .p)) (atE H _) (by simp [AV.cells,h']) (by omega) (leaves_p ys) (okLevels_p lo _ ys) (by omega)]
  simp only [AV.cells]
  rw [splice_all (by simp [h,h'])]
  simp
theorem boxE (xs:List PV)(H:Heap):boxO [] (xs.map .p) H = some (.ptr H.length 0,H ++ [.box (xs.map .p)]) := boxO_p xs H
section
variable {α:Type}{enc:α → List PV}{k:Nat}
variable {l:List α}{id g m:Nat}{H:Heap}{fx:List (Nat × AObj)}{l2:List Ll}
theorem setAt {H:Heap}{id:Nat}{o o':AObj}(h:H[id]? = some o):(H.set id o')[id]? = some o' := List.getElem?_set_self (getElem?_lt h)
end
section
variable {κ:Type} [DecidableEq κ] {ty:Ty}{enc:κ → AV}{H:Heap}{fx:List (Nat × AObj)}{ls:List Ll}{kvs:List (Kv κ)}{c id:Nat}
end
end Go.AM

