/- Walks: slices.Repeat at one number. -/
import Derived.Test.YtlbihfbeamlacaaHbxav
import Derived.Test.YtlbihfbeamlacaaHbxaw
import Derived.Laws.CopyOwn
set_option linter.unusedSimpArgs false
set_option linter.unusedVariables false
set_option maxRecDepth 100000
set_option maxHeartbeats 6400000
namespace Go.Proofs.Ytlbihfbeamlacaa
open Go.RowKit
/-- The cells when k of n were written. -/
def repC (x : Int) (n k : Nat) : List Value:=List.replicate k (.int .i64 x) ++ List.replicate (n - k) (.int .i64 0)
theorem Rd.rep {w : World} {g n k : Nat} {x : Int} (h : Blk w g 3 (repC x n k).toArray) (hk : k≤n) (hn : n≤10000) : Rd (· < w.heap.size) 1 ienc w ⟨some ⟨g,0,none⟩,n,List.replicate k x⟩ :=
  ⟨by simpa using hk,by unfold maxLen; simp only; omega,fun h=>by simp at h,fun i y hy=>by
    simp only [List.getElem?_replicate] at hy
    have hi : i<k:=by
      by_cases hi : i<k
      · exact hi
      · rw [if_neg hi] at hy; simp at hy
    rw [if_pos hi] at hy
    injection hy with hy
    subst hy
    exact ⟨g,0,rfl,h.lt,fun j u hu=>by
      have hj : j=0:=by
        rcases j with _ | j
        · rfl
        · simp [ienc] at hu
      subst hj
      rw [h.cell]
      simp only [ienc,List.getElem?_cons_zero] at hu
      rw [← hu]
      unfold repC
      simp [List.getElem?_append,List.getElem?_replicate,hi]⟩⟩
theorem copy_into {F : Nat→Prop} (w : World) (g o dl dc : Nat) (s : Sl Int) (cur : List Value) (hg : Blk w g 3 cur.toArray) (hs : Rd F 1 ienc w s) (ho : o+min s.l.length dl≤cur.length) :
    ∃ w',(Builtin.copy_ #[23,23] 3 #[.slice (some ⟨g,o,none⟩) dl dc,.slice s.A s.l.length s.c]).run Try.prog w = .ok (.int .i64 ((min s.l.length dl : Nat) : Int)) w'∧Blk w' g 3 (splice cur o ((s.l.take (min s.l.length dl)).map (Value.int .i64))).toArray∧∀ B,B≤g→Below B w w':=by
  obtain ⟨m,hm⟩ : ∃ m,min s.l.length dl=m:=⟨_,rfl⟩
  have hml : m≤s.l.length:=by omega
  have hcl : ((s.l.take m).map (Value.int .i64)).length=m:=by simp; omega
  have hone : ∀ v ∈ (s.l.take m).map (Value.int .i64),v.oneCell'=true:=by intro v hv; obtain ⟨a,_,rfl⟩:=List.mem_map.1 hv; rfl
  have hat : ∀ j v,((s.l.take m).map (Value.int .i64))[j]? = some v→∃ h : j<s.l.length,v = .int .i64 s.l[j]:=by
    intro j v hv
    rw [List.getElem?_map,List.getElem?_take] at hv
    by_cases hj : j<m
    · rw [if_pos hj] at hv
      have hjl : j<s.l.length:=by omega
      rw [List.getElem?_eq_getElem hjl] at hv
      injection hv with hv
      exact ⟨hjl,hv.symm⟩
    · rw [if_neg hj] at hv; simp at hv
  rw [hm] at ho ⊢
  generalize (s.l.take m).map (Value.int .i64)=cs at *
  obtain ⟨i,hi,hz,hsize,hby,hzs⟩:=infoInt
  have hsz : (Try.prog.info? 3).map (·.size)=some 1:=by rw [hi]; simp [hsize]
  by_cases h0 : m=0
  · obtain rfl : cs=[]:=List.eq_nil_of_length_eq_zero (by omega)
    subst h0
    refine ⟨w, ?_, ?_,fun B hB=>Below.refl _ _⟩
    · exact run_copy_none (P:=Try.prog) w _ _ _ 3 _ _ dl dc s.l.length s.c Try.underlying23 hsz (by simpa using hm)
    · simpa [splice] using hg
  · obtain ⟨b,o',hA,_,_⟩:=hs.at1 (i:=0) (by omega)
    have hsrc : ∀ j v,cs[j]? = some v→w.cell? (Addr.add ⟨b,o',none⟩ j)=some v:=by
      intro j v hv
      obtain ⟨hjl,hv2⟩:=hat j v hv
      rw [hv2]
      obtain ⟨b2,o2,hA2,_,hc⟩:=hs.at1 hjl
      have h1 : w.cell? ⟨b2,o2+j * 1,none⟩=some (.int .i64 s.l[j]):=Cells.c1 hc
      have e : b=b2∧o'=o2:=by rw [hA] at hA2; simpa using hA2
      rw [← e.1,← e.2,Nat.mul_one] at h1
      by_cases hj : j=0
      · subst hj; simpa [Addr.add] using h1
      · simpa [Addr.add,hj] using h1
    have hrun:=run_copy_row (P:=Try.prog) w 23 23 3 3 g o dl dc ⟨b,o',none⟩ s.l.length s.c cur.toArray 3 cs Try.underlying23 hsz hg (by rw [hcl]; exact hm.symm) hsrc (by rw [hcl]; simpa using ho) hone
    rw [hA,hrun,hcl]
    refine ⟨_,rfl, ?_,fun B hB=>below_setRow (Below.refl _ _) hB _⟩
    have h:=setRow_heap w g _ (cur.take o ++ cs ++ cur.drop (o+cs.length)).toArray _ _ hg
    rw [← hcl]
    simp only [List.append_assoc] at h ⊢
    exact h
theorem slices_Repeat (s : Sl Int) (x : Int) (hx : s.l=[x]) (n : Nat) (hn : n≤10000) (w : World) (hr : Rd (· < w.heap.size) 1 ienc w s) :
    Calls Try.prog 52 #[.slice s.A s.l.length s.c,.int .i64 n] w fun r w'=>∃ g,r = .returned (.slice (some ⟨g,0,none⟩) n n)∧w.heap.size≤g∧Blk w' g 3 (List.replicate n (.int .i64 x)).toArray∧Below w.heap.size w w':=by
  have HR:=Lib.hid hr
  clear hr
  obtain ⟨A,c,l⟩:=s
  simp only at hx ⊢
  subst hx
  have hmul:=fun w=>Try.bits_Mul 1 n (by omega) (by omega) w
  rw [Nat.one_mul,Nat.div_eq_of_lt (show n<18446744073709551616 by omega),Nat.mod_eq_of_lt (show n<18446744073709551616 by omega)] at hmul
  have hu : IntKind.u64.wrap (n : Int)=(n : Int):=by rw [IntKind.wrap_u64]; omega
  have hi : IntKind.i64.wrap (n : Int)=(n : Int):=by rw [IntKind.wrap_i64]; omega
  have hmk:=make_ints n hn
  go_enter Try.func52,Try.ntmps52
  go_wp2_with fail
  refine (hmul w).mono ?_
  rintro r w1 ⟨rfl,rfl⟩
  clear hmul
  simp only [Int.natCast_zero,List.length_cons,List.length_nil,Nat.zero_add]
  have hbn : Blk (w1.alloc (.cells (List.replicate n (.int .i64 0)).toArray 3)) w1.heap.size 3 (repC x n 0).toArray:=by
    unfold repC
    rw [Nat.sub_zero,List.replicate_zero,List.nil_append]
    exact Blk.new _ _ _
  have HBN:=Lib.hid hbn
  clear hbn
  rw [show (List.replicate n (Value.int .i64 0)).toArray=Array.replicate n (.int .i64 0) by simp] at HBN hmk
  have HB1 : Hid (Below w1.heap.size w1 (w1.alloc (.cells (Array.replicate n (.int .i64 0)) 3))):=Lib.hid (by repeat (first | (with_reducible exact Below.refl _ _) | ((with_reducible refine below_setr ?_ ?_); focus (first | (simp; done) | (simp; omega) | omega)) | ((with_reducible refine below_allocr ?_ ?_); focus (first | (simp; done) | (simp; omega) | omega)) | (with_reducible refine Below.drew ?_) | (with_reducible refine below_drewN ?_ _)))
  obtain ⟨w2,hcp,hbk,hbel⟩:=copy_into _ _ 0 n n ⟨A,c,[x]⟩ _ HBN.out (HR.out.later HB1.out (Nat.le_refl _)) (by simp [repC]; omega)
  have HBK:=Lib.hid hbk
  have HB2:=Lib.hid (HB1.out.trans (hbel _ (Nat.le_refl _)))
  clear hbk hbel
  simp only [List.length_cons,List.length_nil,Nat.zero_add] at hcp
  go_wp2_with (at_builtin; apply Hid.out)
  have HBK2 : Hid (Blk w2 w1.heap.size 3 (repC x n (min 1 n)).toArray):=Lib.hid (by
    have h:=HBK.out
    have e : splice (repC x n 0) 0 (List.map (Value.int IntKind.i64) (List.take (min [x].length n) [x]))=repC x n (min 1 n):=by
      unfold splice repC
      rcases n with _ | n
      · simp
      · have : min 1 (n+1)=1:=by omega
        simp [this,List.replicate_succ]
    rw [e] at h
    exact h)
  have hsz : w1.heap.size<w2.heap.size:=HBK2.out.lt
  clear HBK hcp hmk HBN HB1 HR
  go_loopw [8] (fun v wr=>∃ (k : Nat),v = .int .i64 k∧k≤n∧(n=0∨1≤k)∧Hid (Blk wr w1.heap.size 3 (repC x n k).toArray)∧Hid (Below w1.heap.size w1 wr)) (fun v _=>n - (intOf v).toNat)
  case atStart=>exact ⟨min 1 n,rfl,by omega,by omega,HBK2,HB2⟩
  case round =>
    clear HBK2 HB2
    obtain ⟨k,rfl,hk,hk1,HB,HW⟩:=hrel
    by_cases hlt : k<n
    · have hlt' : (k : Int)<(n : Int):=by omega
      go_wp2_with fail
      replace HB:=Lib.hid (HB.out.later (Below.drew (Below.refl wr.heap.size wr)))
      replace HW:=Lib.hid (Below.drew HW.out)
      refine wp_region_T (fun W=>True) (fun _=>false) (by kernel_rfl) trivial (fun hHeld=>?_)
      refine wpAnyT_take2 (i:=0) (v:=?_) rfl rfl (by kernel_rfl) (by kernel_rfl) (by kernel_rfl) (by kernel_rfl) (fun _ _ _ h=>h) (Or.inl ⟨by rfl, ?_⟩) (by first | assumption | trivial) ?_
      rotate_left
      · (intro w hSw; (try dsimp only at hSw); go_simp) <;> (with_reducible rfl)
      simp only [List.setIfInBounds_toArray,List.set_cons_zero,List.set_cons_succ]
      refine wpAnyT_take2 (i:=1) (v:=?_) rfl rfl (by kernel_rfl) (by kernel_rfl) (by kernel_rfl) (by kernel_rfl) (fun _ _ _ h=>h) (Or.inl ⟨by rfl, ?_⟩) (by first | assumption | trivial) ?_
      rotate_left
      · (intro w hSw; (try dsimp only at hSw); go_simp) <;> (with_reducible rfl)
      simp only [List.setIfInBounds_toArray,List.set_cons_zero,List.set_cons_succ]
      refine wpAnyT_take2 (i:=2) (v:=?_) rfl rfl (by kernel_rfl) (by kernel_rfl) (by kernel_rfl) (by kernel_rfl) (fun _ _ _ h=>h) (Or.inl ⟨by rfl, ?_⟩) (by first | assumption | trivial) ?_
      rotate_left
      · (intro w hSw; (try dsimp only at hSw); go_simp) <;> (with_reducible rfl)
      simp only [List.setIfInBounds_toArray,List.set_cons_zero,List.set_cons_succ]
      refine wpAnyT_take2 (i:=3) (v:=?_) rfl rfl (by kernel_rfl) (by kernel_rfl) (by kernel_rfl) (by kernel_rfl) (fun _ _ _ h=>h) (Or.inl ⟨by rfl, ?_⟩) (by first | assumption | trivial) ?_
      rotate_left
      · (intro w hSw; (try dsimp only at hSw); go_simp) <;> (with_reducible rfl)
      simp only [List.setIfInBounds_toArray,List.set_cons_zero,List.set_cons_succ]
      refine wpAnyT_take2 (i:=4) (v:=?_) rfl rfl (by kernel_rfl) (by kernel_rfl) (by kernel_rfl) (by kernel_rfl) (fun _ _ _ h=>h) (Or.inl ⟨by rfl, ?_⟩) (by first | assumption | trivial) ?_
      rotate_left
      · (intro w hSw; (try dsimp only at hSw); go_simp) <;> (with_reducible rfl)
      simp only [List.setIfInBounds_toArray,List.set_cons_zero,List.set_cons_succ]
      refine wpAnyT_take2 (i:=5) (v:=?_) rfl rfl (by kernel_rfl) (by kernel_rfl) (by kernel_rfl) (by kernel_rfl) (fun _ _ _ h=>h) (Or.inl ⟨by rfl, ?_⟩) (by first | assumption | trivial) ?_
      rotate_left
      · (intro w hSw; (try dsimp only at hSw); go_simp) <;> (with_reducible rfl)
      simp only [List.setIfInBounds_toArray,List.set_cons_zero,List.set_cons_succ]
      refine wpAnyT_take2 (i:=6) (v:=?_) rfl rfl (by kernel_rfl) (by kernel_rfl) (by kernel_rfl) (by kernel_rfl) (fun _ _ _ h=>h) (Or.inl ⟨by rfl, ?_⟩) (by first | assumption | trivial) ?_
      rotate_left
      · (intro w hSw; (try dsimp only at hSw); go_simp) <;> (with_reducible rfl)
      simp only [List.setIfInBounds_toArray,List.set_cons_zero,List.set_cons_succ]
      clear hHeld
      generalize wr.drew=wd at *
      obtain ⟨w3,hcp,hbk,hbel⟩:=copy_into wd w1.heap.size k (n - k) (n - k) ⟨some ⟨w1.heap.size,0,none⟩,n,List.replicate k x⟩ (repC x n k) HB.out (Rd.rep HB.out hk hn) (by simp [repC]; omega)
      simp only [List.length_replicate] at hcp hbk
      have HK3:=Lib.hid hbk
      have HW3:=Lib.hid (HW.out.trans (hbel _ (Nat.le_refl _)))
      clear hbk hbel HB HW
      refine wpAnyT_next (i:=7) (by kernel_rfl) rfl ?_
      go_wp2_with fail
      refine And.intro (fun _=>trivial) ?_
      have hHeld : True:=trivial
      refine wpAnyT_take2 (i:=8) (v:=?_) rfl rfl (by kernel_rfl) (by kernel_rfl) (by kernel_rfl) (by kernel_rfl) (fun _ _ _ h=>h) (Or.inl ⟨by rfl, ?_⟩) (by first | assumption | trivial) ?_
      rotate_left
      · (intro w hSw; (try dsimp only at hSw); go_simp) <;> (with_reducible rfl)
      simp only [List.setIfInBounds_toArray,List.set_cons_zero,List.set_cons_succ]
      refine wpAnyT_take2 (i:=9) (v:=?_) rfl rfl (by kernel_rfl) (by kernel_rfl) (by kernel_rfl) (by kernel_rfl) (fun _ _ _ h=>h) (Or.inl ⟨by rfl, ?_⟩) (by first | assumption | trivial) ?_
      rotate_left
      · (intro w hSw; (try dsimp only at hSw); go_simp) <;> (with_reducible rfl)
      simp only [List.setIfInBounds_toArray,List.set_cons_zero,List.set_cons_succ]
      refine wpAnyT_done (by kernel_rfl) ?_ _
      clear hHeld
      try clear hcp
      have HK4 : Hid (Blk w3 w1.heap.size 3 (repC x n (k+min k (n - k))).toArray):=Lib.hid (by
        have h:=HK3.out
        have e : splice (repC x n k) k (List.map (Value.int IntKind.i64) (List.take (min k (n - k)) (List.replicate k x)))=repC x n (k+min k (n - k)):=by
          unfold splice repC
          rw [List.take_replicate,List.map_replicate,List.length_replicate,show min (min k (n - k)) k=min k (n - k) by omega]
          rw [List.take_append_of_le_length (by simp),List.take_replicate,Nat.min_self,List.drop_append,List.length_replicate,List.drop_replicate,List.drop_replicate]
          rw [show k - (k+min k (n - k))=0 by omega,show n - k - (k+min k (n - k) - k)=n - (k+min k (n - k)) by omega,List.replicate_zero,List.nil_append,← List.append_assoc,List.replicate_append_replicate]
        rw [e] at h
        exact h)
      go_wp2_with fail
      have hwr : IntKind.i64.wrap ((k : Int)+((min k (n - k) : Nat) : Int))=((k+min k (n - k) : Nat) : Int):=by rw [IntKind.wrap_i64]; omega
      go_roundw
      case rel=>exact ⟨k+min k (n - k),congrArg (Value.int .i64) hwr,by omega,by omega,HK4,HW3⟩
      case measure=>simp only [intOf,hwr]; omega
    · have hkn : k=n:=by omega
      subst hkn
      have hlt' : ¬ (k : Int)<(k : Int):=by omega
      go_wp2_with fail
      go_ret
      refine ⟨_,rfl,Nat.le_refl _, ?_,HW.out⟩
      have h:=HB.out
      unfold repC at h
      simpa using h
end Go.Proofs.Ytlbihfbeamlacaa
