/-
Lists of lists: built in a list of variables; given away.
-/
import Derived.Test.YtnjfpnoamgipjaaDoorAm24
set_option linter.unusedVariables false
set_option linter.unusedSimpArgs false
namespace Go.AM
def gLl (p:AV × List Int):Ll := (p.1,1,p.2.length,p.2.map Ia)
theorem Cx.toPV {sz m:Nat}{o:AV}{cs:List PV}{l2:List Ll}{H:Heap}{fx:List (Nat × AObj)}(h:Cx H fx ((o,sz,m,cs) :: l2)) :
    ∃ nl tg H',AM.toPV H o = some (.sl nl tg m cs,H') ∧ Cx H' fx l2 ∧ H.length = H'.length ∧ (nl = some true → m = 0) := by
  have hL:Lst sz o H m cs := h.lst (o,sz,m,cs) (by simp)
  have hs := sepAt (l1 := []) h.sep
  have h2 := h.tl
  obtain ⟨hl,⟨nl,rfl,h1⟩ | ⟨id,g,rfl,ho⟩⟩ := hL
  · exact ⟨nl,true,H,rfl,h2,rfl,h1⟩
  · refine ⟨if 0 < m then some false else none,false,H.set id (.row (g + 1) sz []),?_,⟨fun q hq => obj_keep (Lst.row hl ho) Keeps.setRow (h2.obj q hq),fun q hq => (h2.lst q hq).keep Keeps.setRow (hs q (.inr hq)),h2.sep⟩,by simp,?_⟩
    · simp only [AM.toPV,ho,Nat.zero_add,hl,Nat.le_refl,and_self,if_true]
      rw [List.drop_zero,List.take_of_length_le (by omega)]
    · intro e; split at e <;> cases e
theorem Cx.lit {o:AV}{d:List Int}{l2:List Ll}{H:Heap}{fx:List (Nat × AObj)}(h:Cx H fx (gLl (o,d) :: l2)) :
    ∃ nl tg H',litA false 1 [o] H = some (.p (.sl (some false) true 1 [us (nl,tg,d)]),H') ∧ Cx H' fx l2 := by
  obtain ⟨nl,tg,H',e,h',_⟩ := Cx.toPV h
  refine ⟨nl,tg,H',?_,h'⟩
  have hL:Lst 1 o H d.length (d.map Ia) := h.lst (gLl (o,d)) (by simp)
  have hc:o.cells = [o] := by
    obtain ⟨hl,⟨nl,rfl,h1⟩ | ⟨id,g,rfl,ho⟩⟩ := hL <;> rfl
  simp only [litA,List.all_cons,List.all_nil,hc,List.length_singleton,beq_self_eq_true,Bool.and_true,if_true,litCells,List.append_nil,toPVs,e,obs,oms]
  rfl
end Go.AM

