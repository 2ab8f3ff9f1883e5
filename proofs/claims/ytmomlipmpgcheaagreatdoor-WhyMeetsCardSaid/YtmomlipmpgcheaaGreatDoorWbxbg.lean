/- Plain: one to three sorted numbers. -/
import Derived.Test.YtmomlipmpgcheaaGreatDoorWbxay
set_option linter.unusedSimpArgs false
set_option linter.unusedVariables false
set_option maxRecDepth 100000
set_option maxHeartbeats 6400000
namespace Go.Proofs.YtmomlipmpgcheaaGreatDoor
open Go.RowKit
theorem wide_1 (a : Int) : wideB [a]=(decide (a < -1000000000000000) || decide (1000000000000000<a)):=by
  unfold wideB; simp
theorem wide_2 {a b : Int} (h : [a,b].Pairwise (·≤·)) : wideB [a,b]=(decide (a < -1000000000000000) || decide (1000000000000000<b)):=by
  have h1 : a≤b:=by simpa using h
  unfold wideB
  rw [Bool.eq_iff_iff]
  simp
  omega
theorem wide_3 {a b d : Int} (h : [a,b,d].Pairwise (·≤·)) : wideB [a,b,d]=(decide (a < -1000000000000000) || decide (1000000000000000<d)):=by
  have h1 : (a≤b∧a≤d)∧b≤d:=by simpa using h
  unfold wideB
  rw [Bool.eq_iff_iff]
  simp
  omega
theorem nod_1 {a : Int} {z : List Int} (hz : [a].Nodup↔z.Nodup) {m : Nat} (hm : (Lib.compact [a]).length=m) : (z.Nodup→¬ m=0)∧(¬ z.Nodup→m=0):=by
  rw [comp1] at hm
  subst hm
  exact ⟨fun _=>by omega,fun h=>absurd (hz.1 (by simp)) h⟩
theorem nod_2 {a b : Int} {z : List Int} (_ : [a,b].Pairwise (·≤·)) (hz : [a,b].Nodup↔z.Nodup) {m : Nat} (hm : (Lib.compact [a,b]).length=m) : (z.Nodup→(1 : Int)<(m : Int))∧(¬ z.Nodup→(m : Int)≤(1 : Int)):=by
  rw [comp2] at hm
  rw [← hz]
  simp only [List.nodup_cons,List.mem_cons,List.not_mem_nil,or_false,List.nodup_nil,not_or,not_false_eq_true,and_true]
  subst hm
  by_cases h : b=a
  · subst h; simp
  · have : ¬ a=b:=fun e=>h e.symm
    simp [h,this]
theorem nod_3 {a b d : Int} {z : List Int} (h : [a,b,d].Pairwise (·≤·)) (hz : [a,b,d].Nodup↔z.Nodup) {m : Nat} (hm : (Lib.compact [a,b,d]).length=m) : (z.Nodup→(2 : Int)<(m : Int))∧(¬ z.Nodup→(m : Int)≤(2 : Int)):=by
  have h1 : (a≤b∧a≤d)∧b≤d:=by simpa using h
  rw [comp3] at hm
  rw [← hz]
  simp only [List.nodup_cons,List.mem_cons,List.not_mem_nil,or_false,List.nodup_nil,not_or,not_false_eq_true,and_true]
  subst hm
  constructor
  · rintro ⟨⟨h2,h3⟩,h4⟩
    rw [if_neg (fun e=>h2 e.symm),if_neg (fun e=>h4 e.symm)]
    decide
  · intro h2
    by_cases e1 : b=a
    · rw [if_pos e1]; split <;> decide
    · by_cases e2 : d=b
      · rw [if_pos e2]; split <;> decide
      · exact absurd ⟨⟨fun e=>e1 e.symm,fun e=>by omega⟩,fun e=>e2 e.symm⟩ h2
end Go.Proofs.YtmomlipmpgcheaaGreatDoor
