/- Walk: whether ranks are right. -/
import Derived.Test.YtlbihfbeamlacaaHbxal
set_option linter.unusedSimpArgs false
set_option linter.unusedVariables false
set_option maxRecDepth 100000
set_option maxHeartbeats 6400000
namespace Go.Proofs.Ytlbihfbeamlacaa
open Go.RowKit
theorem infoBool : Info Try.prog 4 (.bool false) 1 1:=info_mk (by kernel_rfl) rfl
theorem made_rep {z : Value} (hz : z.cells = #[z]) (n : Nat) : madeCells z.cells n=(List.replicate n z).toArray:=by
  unfold madeCells
  rw [hz]
  apply Array.ext_getElem?
  intro j
  rcases Nat.lt_or_ge j n with hj | hj
  · rw [Array.getElem?_map,Array.getElem?_range,if_pos (by simpa using hj),List.getElem?_toArray,List.getElem?_replicate,if_pos hj]
    simp [Nat.mod_one]
  · rw [Array.getElem?_eq_none (by simpa using hj),Array.getElem?_eq_none (by simpa using hj)]
theorem make_bools (n : Nat) (hn : n≤10000) (w : World) : (Instr.makeSlice 71 (.int .i64 (n : Int)) (.int .i64 (n : Int))).run Try.prog w = .ok (.slice (some ⟨w.heap.size,0,none⟩) n n) (w.alloc (.cells (List.replicate n (.bool false)).toArray 4)):=by
  obtain ⟨i,hi,hz,hsize,hby,hzs⟩:=infoBool
  have h:=run_makeSlice w 71 4 i _ Try.underlying71 hi hz .i64 .i64 (n : Int) (n : Int) (by omega) (Int.le_refl _) (by rw [hsize]; omega) (by rw [hby]; omega) (by omega)
  rw [h,hsize]
  simp only [Int.toNat_natCast,Nat.mul_one,made_rep (z:=Value.bool false) rfl]
/-- The ranks: each number once. -/
def RkP (R : List Int) (n : Int) : Prop:=R.Nodup∧(∀ x,x ∈ R→0≤x∧x<(R.length : Int))∧(R.length : Int)=n
theorem RkP.ok {R : List Int} {n : Nat} (h : RkP R n) : RkOK n R:=⟨by have:=h.2.2; omega,fun x hx=>by have:=h.2.1 x hx; have:=h.2.2; unfold Ir; omega,h.1⟩
def seenC (R : List Int) (k : Nat) : Array Value:=((List.range R.length).map fun (j : Nat)=>Value.bool (decide ((j : Int) ∈ R.take k))).toArray
theorem seenC_zero (R : List Int) : (List.replicate R.length (Value.bool false)).toArray=seenC R 0:=by
  unfold seenC
  congr 1
  apply List.ext_getElem?
  intro i
  rw [List.getElem?_replicate,List.getElem?_map]
  by_cases h : i<R.length
  · rw [if_pos h,List.getElem?_range h]; simp
  · rw [if_neg h,List.getElem?_eq_none (by simpa using h)]; rfl
theorem seenC_at (R : List Int) (k m : Nat) (h : m<R.length) : (seenC R k)[m]? = some (.bool (decide ((m : Int) ∈ R.take k))):=by
  unfold seenC
  rw [List.getElem?_toArray,List.getElem?_map,List.getElem?_range h]; rfl
theorem seenC_step {R : List Int} {k m : Nat} (h : R[k]? = some (m : Int)) : (seenC R k).setIfInBounds m (.bool true)=seenC R (k+1):=by
  obtain ⟨hk,he⟩:=List.getElem?_eq_some_iff.1 h
  have ht : R.take (k+1)=R.take k ++ [(m : Int)]:=by rw [List.take_add_one,h]; rfl
  apply Array.ext_getElem?
  intro j
  rw [Array.getElem?_setIfInBounds]
  by_cases hj : j<R.length
  · rw [seenC_at R (k+1) j hj,seenC_at R k j hj,ht]
    by_cases hm : m=j
    · subst hm
      rw [if_pos rfl,if_pos (by unfold seenC; simpa using hj)]
      simp
    · rw [if_neg hm]
      have : ¬ (j : Int)=(m : Int):=by omega
      simp [this]
  · have h1 : ∀ k',(seenC R k')[j]? = none:=fun k'=>Array.getElem?_eq_none (by unfold seenC; simpa using hj)
    rw [h1,h1]
    by_cases hm : m=j
    · rw [if_pos hm,if_neg (by unfold seenC; simp; omega)]
    · rw [if_neg hm]
/-- The first k numbers are right. -/
def RkK (R : List Int) (k : Nat) : Prop:=(R.take k).Nodup∧∀ x,x ∈ R.take k→0≤x∧x<(R.length : Int)
theorem RkK.zero (R : List Int) : RkK R 0:=⟨by simp,fun x hx=>by simp at hx⟩
theorem RkK.next {R : List Int} {k : Nat} {x : Int} (h : RkK R k) (hx : R[k]? = some x) (h0 : 0≤x) (h1 : x<(R.length : Int)) (hn : x ∉ R.take k) : RkK R (k+1):=by
  have ht : R.take (k+1)=R.take k ++ [x]:=by rw [List.take_add_one,hx]; rfl
  unfold RkK
  rw [ht]
  refine ⟨nodup_snoc h.1 hn,fun y hy=>?_⟩
  rcases List.mem_append.1 hy with hy | hy
  · exact h.2 y hy
  · rw [List.mem_singleton.1 hy]; exact ⟨h0,h1⟩
theorem RkP.not_seen {R : List Int} {n : Int} {k : Nat} {x : Int} (h : RkP R n) (hx : R[k]? = some x) : x ∉ R.take k:=fun hm=>by
  obtain ⟨i,hi,he⟩:=List.mem_iff_getElem.1 hm
  obtain ⟨hk,hke⟩:=List.getElem?_eq_some_iff.1 hx
  rw [List.length_take] at hi
  rw [List.getElem_take] at he
  have:=nodup_inj h.1 (i:=i) (j:=k) (by omega) hk (by rw [he,hke])
  omega
theorem hier_ranks (R : Sl Int) (n : Int) (t : Bool) (ht : t=true↔RkP R.l n) (w : World) (hr : Rd (· < w.heap.size) 1 ienc w R) (hl : R.l.length≤10000) :
    Calls Try.prog 25 #[.slice R.A R.l.length R.c,.int .i64 n] w fun r w'=>r = .returned (.bool t)∧Below w.heap.size w w':=by
  have HR:=Lib.hid hr
  have HT:=Lib.hid ht
  clear hr ht
  obtain ⟨A,c,R⟩:=R
  simp only at hl HT
  have hmk:=make_bools R.length hl
  rw [seenC_zero] at hmk
  go_enter Try.func25,Try.ntmps25
  go_wp2_with fail
  clear hmk
  have HB1 : Hid (Below w.heap.size w (w.alloc (.cells (seenC R 0) 4))):=Lib.hid (by repeat (first | (with_reducible exact Below.refl _ _) | ((with_reducible refine below_setr ?_ ?_); focus (first | (simp; done) | (simp; omega) | omega)) | ((with_reducible refine below_allocr ?_ ?_); focus (first | (simp; done) | (simp; omega) | omega)) | (with_reducible refine Below.drew ?_) | (with_reducible refine below_drewN ?_ _)))
  have HX1 : Hid (Blk (w.alloc (.cells (seenC R 0) 4)) w.heap.size 4 (seenC R 0)):=Lib.hid (Blk.new _ _ _)
  generalize w.alloc (.cells (seenC R 0) 4)=w1 at *
  go_loopw [7,13] (fun _ i wr=>∃ (k : Nat),k≤R.length∧i = .int .i64 k∧Hid (Below w.heap.size w wr)∧Hid (Blk wr w.heap.size 4 (seenC R k))∧Hid (RkK R k)) (fun _ i _=>R.length - (intOf i).toNat)
  case atStart=>exact ⟨0,by omega,rfl,HB1,HX1,Lib.hid (RkK.zero R)⟩
  case round =>
    obtain ⟨k,hk,rfl,HB,HX,HK⟩:=hrel
    by_cases hlt : k<R.length
    · have hlt' : (k : Int)<(R.length : Int):=by omega
      obtain ⟨b,o,rfl,hb,hcl⟩:=(HR.out.later HB.out (Nat.le_refl _)).at1 hlt
      have g0:=hcl.c1
      simp only [Nat.mul_one] at g0
      have hx : R[k]? = some R[k]:=List.getElem?_eq_getElem hlt
      have HXK:=Lib.hid hx
      clear hx hcl
      generalize R[k]=x at *
      by_cases h0 : x<0
      · have HF : Hid (t=false):=Lib.hid (by
          cases t
          · rfl
          · have:=(HT.out.1 rfl).2.1 x (List.mem_of_getElem? HXK.out); omega)
        go_wp2_with fail
        go_ret
        exact ⟨ret_bool HF.out.symm,HB.out⟩
      replace h0:=Int.not_lt.1 h0
      by_cases h1 : (R.length : Int)≤x
      · have HF : Hid (t=false):=Lib.hid (by
          cases t
          · rfl
          · have:=(HT.out.1 rfl).2.1 x (List.mem_of_getElem? HXK.out); omega)
        go_wp2_with fail
        go_ret
        exact ⟨ret_bool HF.out.symm,HB.out⟩
      replace h1:=Int.not_le.1 h1
      obtain ⟨m,rfl⟩:=Int.eq_ofNat_of_zero_le h0
      have hm : m<R.length:=by omega
      have b0:=HX.out.cell m
      rw [seenC_at R k m hm] at b0
      have bf:=HX.out.frozen m
      obtain ⟨sb,hsb⟩ : ∃ sb,decide ((m : Int) ∈ R.take k)=sb:=⟨_,rfl⟩
      rw [hsb] at b0
      have HSB:=Lib.hid hsb
      clear hsb
      rcases sb
      · have HK2:=Lib.hid (HK.out.next HXK.out h0 h1 (of_decide_eq_false HSB.out))
        have HX2:=Lib.hid (HX.out.set_ m (.bool true))
        rw [seenC_step HXK.out] at HX2
        have HB2:=Lib.hid (HB.out.setCell (p:=⟨w.heap.size,m,none⟩) (Nat.le_refl _) (.bool true))
        go_wp2_with fail
        go_roundw
        case rel=>exact ⟨k+1,by omega,by go_num,HB2,HX2,HK2⟩
        case measure=>simp [intOf]; omega
      · have HF : Hid (t=false):=Lib.hid (by
          cases t
          · rfl
          · exact absurd (of_decide_eq_true HSB.out) ((HT.out.1 rfl).not_seen HXK.out))
        go_wp2_with fail
        go_ret
        exact ⟨ret_bool HF.out.symm,HB.out⟩
    · have hkl : k=R.length:=by omega
      have HF : Hid (decide ((R.length : Int)=n)=t):=Lib.hid (by
        have h:=HK.out
        unfold RkK at h
        rw [List.take_of_length_le (by omega)] at h
        cases t
        · refine decide_eq_false fun hc=>?_
          exact absurd (HT.out.2 ⟨h.1,h.2,hc⟩) (by simp)
        · exact decide_eq_true (HT.out.1 rfl).2.2)
      go_wp2_with fail
      go_ret
      exact ⟨ret_bool (by first | exact HF.out | (rw [← HF.out]; simp; done) | (rw [← HF.out])),HB.out⟩
end Go.Proofs.Ytlbihfbeamlacaa
