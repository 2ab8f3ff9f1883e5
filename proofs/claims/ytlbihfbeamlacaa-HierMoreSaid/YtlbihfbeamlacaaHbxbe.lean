/- Walks: whether two slices of numbers, or of edges, are the same. -/
import Derived.Test.YtlbihfbeamlacaaHbxal
import Derived.Test.YtlbihfbeamlacaaHbxak
set_option linter.unusedSimpArgs false
set_option linter.unusedVariables false
set_option maxRecDepth 100000
set_option maxHeartbeats 6400000
namespace Go.Proofs.Ytlbihfbeamlacaa
open Go.RowKit
deriving instance DecidableEq for ED
theorem edge_eqR (a b c d a' b' c' d' : Int) (w : World) : (Op.equalIn 10000 44 (.agg #[.int .i64 a,.int .i64 b,.int .i64 c,.int .i64 d]) (.agg #[.int .i64 a',.int .i64 b',.int .i64 c',.int .i64 d'])).run Try.prog w = .ok (decide ((⟨a,b,c,d⟩ : ED)=⟨a',b',c',d'⟩)) w:=by
  have h:=run_equalIn_agg (P:=Try.prog) w 9999 44 #[.int .i64 a,.int .i64 b,.int .i64 c,.int .i64 d] #[.int .i64 a',.int .i64 b',.int .i64 c',.int .i64 d'] (by kernel_rfl) (by kernel_rfl)
  refine h.trans ?_
  unfold Program.fieldsOf
  rw [Try.underlying44]
  by_cases h1 : a=a'
  · by_cases h2 : b=b'
    · by_cases h3 : c=c'
      · by_cases h4 : d=d'
        · simp [Op.eqFields,go_sem,h1,h2,h3,h4]
        · simp [Op.eqFields,go_sem,h1,h2,h3,h4]
      · simp [Op.eqFields,go_sem,h1,h2,h3]
    · simp [Op.eqFields,go_sem,h1,h2]
  · simp [Op.eqFields,go_sem,h1]
theorem edge_neq (a b c d a' b' c' d' : Int) (w : World) : (binOp .neq 44 (.agg #[.int .i64 a,.int .i64 b,.int .i64 c,.int .i64 d]) (.agg #[.int .i64 a',.int .i64 b',.int .i64 c',.int .i64 d'])).run Try.prog w = .ok (.bool (!decide ((⟨a,b,c,d⟩ : ED)=⟨a',b',c',d'⟩))) w:=by
  rw [run_neq_struct,edge_eqR]; rfl
theorem edge_guard (op : BinOp) (x y : Operand) (xs ys : Array Value) (w : World) : (eqGuard op 44 x y (.agg xs) (.agg ys)).run Try.prog w = .ok () w:=run_eqGuard_agg w op _ x y xs ys (by kernel_rfl)
theorem take_succ_eq {α : Type} {l m : List α} {k : Nat} {x : α} (h : l.take k=m.take k) (hl : l[k]? = some x) (hm : m[k]? = some x) : l.take (k+1)=m.take (k+1):=by
  rw [List.take_add_one,List.take_add_one,h,hl,hm]
theorem take_ne {α : Type} {l m : List α} {k : Nat} {x y : α} (hl : l[k]? = some x) (hm : m[k]? = some y) (hxy : x≠y) : l≠m:=by
  rintro rfl
  rw [hl] at hm
  injection hm with h
  exact hxy h
theorem slices_EqualI (a b : Sl Int) (w : World) (ha : Rd (· < w.heap.size) 1 ienc w a) (hb : Rd (· < w.heap.size) 1 ienc w b) : Calls Try.prog 35 #[.slice a.A a.l.length a.c,.slice b.A b.l.length b.c] w fun e w'=>e = .returned (.bool (decide (a.l=b.l)))∧Below w.heap.size w w':=by
  have hn:=ha.len
  have hn2:=hb.len
  have HA:=Lib.hid ha
  have HB:=Lib.hid hb
  clear ha hb
  obtain ⟨A,c,l⟩:=a
  obtain ⟨B,d,m⟩:=b
  simp only at hn hn2 ⊢
  by_cases hlen : l.length=m.length
  · go_enter Try.func35,Try.ntmps35
    go_wp2_with fail
    have HLN:=Lib.hid hlen
    clear hlen
    go_loopw [13] (fun i wr=>∃ (k : Nat),k≤l.length∧i = .int .i64 k∧l.take k=m.take k∧Below w.heap.size w wr) (fun i _=>l.length - (intOf i).toNat)
    case atStart=>exact ⟨0,by omega,rfl,rfl,(by repeat (first | (with_reducible exact Below.refl _ _) | ((with_reducible refine below_setr ?_ ?_); focus (first | (simp; done) | (simp; omega) | omega)) | ((with_reducible refine below_allocr ?_ ?_); focus (first | (simp; done) | (simp; omega) | omega)) | (with_reducible refine Below.drew ?_) | (with_reducible refine below_drewN ?_ _)))⟩
    case round =>
      obtain ⟨k,hk,rfl,htk,hbel⟩:=hrel
      by_cases hlt : k<l.length
      · have hlt2 : k<m.length:=by have:=HLN.out; omega
        obtain ⟨b,o,hA,hb,hcl⟩:=HA.out.at1 hlt
        obtain ⟨b',o',hB,hb',hcl'⟩:=HB.out.at1 hlt2
        have hc1:=hcl.keep (hbel.block b hb)
        have hc2:=hcl'.keep (hbel.block b' hb')
        simp only at hA hB hc1 hc2
        have HL:=Lib.hid (List.getElem?_eq_getElem hlt)
        have HM:=Lib.hid (List.getElem?_eq_getElem hlt2)
        clear hcl hcl'
        subst hA hB
        generalize l[k]=x at *
        generalize m[k]=y at *
        rw [Nat.mul_one] at hc1 hc2
        have g0:=Cells.c1 hc1
        have k0:=Cells.c1 hc2
        clear hc1 hc2
        have HTK:=Lib.hid htk
        clear htk
        by_cases hxy : x=y
        · subst hxy
          go_wp2_with fail
          refine wp_region_T (fun W=>W.cell? ⟨b,o+k,none⟩=some (.int .i64 x)∧W.cell? ⟨b',o'+k,none⟩=some (.int .i64 x)) (fun _=>false) (by kernel_rfl) ⟨g0,k0⟩ (fun hHeld=>?_)
          refine wpAnyT_take2 (i:=0) (v:=?_) rfl rfl (by kernel_rfl) (by kernel_rfl) (by kernel_rfl) (by kernel_rfl) (fun _ _ _ h=>h) (Or.inl ⟨by rfl, ?_⟩) (by first | assumption | trivial) ?_
          rotate_left
          · (intro w hSw; (try dsimp only at hSw); go_simp) <;> (with_reducible rfl)
          simp only [List.setIfInBounds_toArray,List.set_cons_zero,List.set_cons_succ]
          refine wpAnyT_take2 (i:=1) (v:=?_) rfl rfl (by kernel_rfl) (by kernel_rfl) (by kernel_rfl) (by kernel_rfl) (fun _ _ _ h=>h) (Or.inl ⟨by rfl, ?_⟩) (by first | assumption | trivial) ?_
          rotate_left
          · (intro w hSw; (try dsimp only at hSw); go_simp) <;> (with_reducible rfl)
          simp only [List.setIfInBounds_toArray,List.set_cons_zero,List.set_cons_succ]
          refine wpAnyT_take2 (i:=2) (v:=?_) rfl rfl (by kernel_rfl) (by kernel_rfl) (by kernel_rfl) (by kernel_rfl) (fun _ _ _ h=>h) (Or.inl ⟨by rfl, ?_⟩) (by first | assumption | trivial) ?_
          rotate_left
          · (intro w hSw; (try dsimp only at hSw); go_simp) <;> (with_reducible rfl)
          simp only [List.setIfInBounds_toArray,List.set_cons_zero,List.set_cons_succ]
          refine wpAnyT_take2 (i:=3) (v:=?_) rfl rfl (by kernel_rfl) (by kernel_rfl) (by kernel_rfl) (by kernel_rfl) (fun _ _ _ h=>h) (Or.inl ⟨by rfl, ?_⟩) (by first | assumption | trivial) ?_
          rotate_left
          · (intro w hSw; (try dsimp only at hSw); go_simp) <;> (with_reducible rfl)
          simp only [List.setIfInBounds_toArray,List.set_cons_zero,List.set_cons_succ]
          refine wpAnyT_take2 (i:=4) (v:=?_) rfl rfl (by kernel_rfl) (by kernel_rfl) (by kernel_rfl) (by kernel_rfl) (fun _ _ _ h=>h) (Or.inl ⟨by rfl, ?_⟩) (by first | assumption | trivial) ?_
          rotate_left
          · (intro w hSw; (try dsimp only at hSw); go_simp) <;> (with_reducible rfl)
          simp only [List.setIfInBounds_toArray,List.set_cons_zero,List.set_cons_succ]
          refine wpAnyT_take2 (i:=5) (v:=?_) rfl rfl (by kernel_rfl) (by kernel_rfl) (by kernel_rfl) (by kernel_rfl) (fun _ _ _ h=>h) (Or.inl ⟨by rfl, ?_⟩) (by first | assumption | trivial) ?_
          rotate_left
          · (intro w hSw; (try dsimp only at hSw); go_simp) <;> (with_reducible rfl)
          simp only [List.setIfInBounds_toArray,List.set_cons_zero,List.set_cons_succ]
          refine wpAnyT_take2 (i:=6) (v:=?_) rfl rfl (by kernel_rfl) (by kernel_rfl) (by kernel_rfl) (by kernel_rfl) (fun _ _ _ h=>h) (Or.inl ⟨by rfl, ?_⟩) (by first | assumption | trivial) ?_
          rotate_left
          · (intro w hSw; (try dsimp only at hSw); go_simp) <;> (with_reducible rfl)
          simp only [List.setIfInBounds_toArray,List.set_cons_zero,List.set_cons_succ]
          refine wpAnyT_take2 (i:=7) (v:=?_) rfl rfl (by kernel_rfl) (by kernel_rfl) (by kernel_rfl) (by kernel_rfl) (fun _ _ _ h=>h) (Or.inl ⟨by rfl, ?_⟩) (by first | assumption | trivial) ?_
          rotate_left
          · (intro w hSw; (try dsimp only at hSw); go_simp) <;> (with_reducible rfl)
          simp only [List.setIfInBounds_toArray,List.set_cons_zero,List.set_cons_succ]
          clear hHeld
          have hHeld:=And.intro g0 k0
          refine wpAnyT_take2 (i:=8) (v:=.bool false) rfl rfl (by kernel_rfl) (by kernel_rfl) (by kernel_rfl) (by kernel_rfl) (fun _ _ _ h=>h) (Or.inl ⟨by rfl, ?_⟩) (by first | assumption | trivial) ?_
          · (intro w hSw; (try dsimp only at hSw); go_simp) <;> (first | (with_reducible rfl) | assumption | (simp; done) | (simp [*]; done) | (simp; omega))
          simp only [List.setIfInBounds_toArray,List.set_cons_zero,List.set_cons_succ]
          refine wpAnyT_done (by kernel_rfl) ?_ _
          clear hHeld
          go_wp2_with fail
          go_roundw
          case rel=>exact ⟨k+1,by omega,by go_num,take_succ_eq HTK.out HL.out HM.out,Below.drew hbel⟩
          case measure=>simp [intOf]; omega
        · have HNE:=Lib.hid (take_ne HL.out HM.out hxy)
          have hxb : (x == y)=false:=by simpa using hxy
          go_wp2_with fail
          refine wp_region_T (fun W=>W.cell? ⟨b,o+k,none⟩=some (.int .i64 x)∧W.cell? ⟨b',o'+k,none⟩=some (.int .i64 y)) (fun _=>false) (by kernel_rfl) ⟨g0,k0⟩ (fun hHeld=>?_)
          refine wpAnyT_take2 (i:=0) (v:=?_) rfl rfl (by kernel_rfl) (by kernel_rfl) (by kernel_rfl) (by kernel_rfl) (fun _ _ _ h=>h) (Or.inl ⟨by rfl, ?_⟩) (by first | assumption | trivial) ?_
          rotate_left
          · (intro w hSw; (try dsimp only at hSw); go_simp) <;> (with_reducible rfl)
          simp only [List.setIfInBounds_toArray,List.set_cons_zero,List.set_cons_succ]
          refine wpAnyT_take2 (i:=1) (v:=?_) rfl rfl (by kernel_rfl) (by kernel_rfl) (by kernel_rfl) (by kernel_rfl) (fun _ _ _ h=>h) (Or.inl ⟨by rfl, ?_⟩) (by first | assumption | trivial) ?_
          rotate_left
          · (intro w hSw; (try dsimp only at hSw); go_simp) <;> (with_reducible rfl)
          simp only [List.setIfInBounds_toArray,List.set_cons_zero,List.set_cons_succ]
          refine wpAnyT_take2 (i:=2) (v:=?_) rfl rfl (by kernel_rfl) (by kernel_rfl) (by kernel_rfl) (by kernel_rfl) (fun _ _ _ h=>h) (Or.inl ⟨by rfl, ?_⟩) (by first | assumption | trivial) ?_
          rotate_left
          · (intro w hSw; (try dsimp only at hSw); go_simp) <;> (with_reducible rfl)
          simp only [List.setIfInBounds_toArray,List.set_cons_zero,List.set_cons_succ]
          refine wpAnyT_take2 (i:=3) (v:=?_) rfl rfl (by kernel_rfl) (by kernel_rfl) (by kernel_rfl) (by kernel_rfl) (fun _ _ _ h=>h) (Or.inl ⟨by rfl, ?_⟩) (by first | assumption | trivial) ?_
          rotate_left
          · (intro w hSw; (try dsimp only at hSw); go_simp) <;> (with_reducible rfl)
          simp only [List.setIfInBounds_toArray,List.set_cons_zero,List.set_cons_succ]
          refine wpAnyT_take2 (i:=4) (v:=?_) rfl rfl (by kernel_rfl) (by kernel_rfl) (by kernel_rfl) (by kernel_rfl) (fun _ _ _ h=>h) (Or.inl ⟨by rfl, ?_⟩) (by first | assumption | trivial) ?_
          rotate_left
          · (intro w hSw; (try dsimp only at hSw); go_simp) <;> (with_reducible rfl)
          simp only [List.setIfInBounds_toArray,List.set_cons_zero,List.set_cons_succ]
          refine wpAnyT_take2 (i:=5) (v:=?_) rfl rfl (by kernel_rfl) (by kernel_rfl) (by kernel_rfl) (by kernel_rfl) (fun _ _ _ h=>h) (Or.inl ⟨by rfl, ?_⟩) (by first | assumption | trivial) ?_
          rotate_left
          · (intro w hSw; (try dsimp only at hSw); go_simp) <;> (with_reducible rfl)
          simp only [List.setIfInBounds_toArray,List.set_cons_zero,List.set_cons_succ]
          refine wpAnyT_take2 (i:=6) (v:=?_) rfl rfl (by kernel_rfl) (by kernel_rfl) (by kernel_rfl) (by kernel_rfl) (fun _ _ _ h=>h) (Or.inl ⟨by rfl, ?_⟩) (by first | assumption | trivial) ?_
          rotate_left
          · (intro w hSw; (try dsimp only at hSw); go_simp) <;> (with_reducible rfl)
          simp only [List.setIfInBounds_toArray,List.set_cons_zero,List.set_cons_succ]
          refine wpAnyT_take2 (i:=7) (v:=?_) rfl rfl (by kernel_rfl) (by kernel_rfl) (by kernel_rfl) (by kernel_rfl) (fun _ _ _ h=>h) (Or.inl ⟨by rfl, ?_⟩) (by first | assumption | trivial) ?_
          rotate_left
          · (intro w hSw; (try dsimp only at hSw); go_simp) <;> (with_reducible rfl)
          simp only [List.setIfInBounds_toArray,List.set_cons_zero,List.set_cons_succ]
          clear hHeld
          have hHeld:=And.intro g0 k0
          refine wpAnyT_take2 (i:=8) (v:=.bool true) rfl rfl (by kernel_rfl) (by kernel_rfl) (by kernel_rfl) (by kernel_rfl) (fun _ _ _ h=>h) (Or.inl ⟨by rfl, ?_⟩) (by first | assumption | trivial) ?_
          · (intro w hSw; (try dsimp only at hSw); go_simp) <;> (first | (with_reducible rfl) | assumption | (simp; done) | (simp [*]; done) | (simp; omega))
          simp only [List.setIfInBounds_toArray,List.set_cons_zero,List.set_cons_succ]
          refine wpAnyT_done (by kernel_rfl) ?_ _
          clear hHeld
          go_wp2_with fail
          go_ret
          exact ⟨ret_bool (decide_eq_false HNE.out).symm,Below.drew hbel⟩
      · have hlt3 : ¬ k<m.length:=by have:=HLN.out; omega
        have HEQ : Hid (l=m):=Lib.hid (by
          have:=HLN.out
          rw [List.take_of_length_le (by omega),List.take_of_length_le (by omega)] at htk
          exact htk)
        go_wp2_with fail
        go_ret
        exact ⟨ret_bool (decide_eq_true HEQ.out).symm,hbel⟩
  · have HNE : Hid (l≠m):=Lib.hid (fun e=>hlen (by rw [e]))
    have hln : ((l.length : Int) == (m.length : Int))=false:=by
      have : (l.length : Int)≠m.length:=by omega
      simpa using this
    go_enter Try.func35,Try.ntmps35
    go_wp2_with fail
    go_ret
    exact ⟨ret_bool (decide_eq_false HNE.out).symm,(by repeat (first | (with_reducible exact Below.refl _ _) | ((with_reducible refine below_setr ?_ ?_); focus (first | (simp; done) | (simp; omega) | omega)) | ((with_reducible refine below_allocr ?_ ?_); focus (first | (simp; done) | (simp; omega) | omega)) | (with_reducible refine Below.drew ?_) | (with_reducible refine below_drewN ?_ _)))⟩
theorem r13_Ints (a b : Sl Int) (w : World) (ha : Rd (· < w.heap.size) 1 ienc w a) (hb : Rd (· < w.heap.size) 1 ienc w b) : Calls Try.prog 12 #[.slice a.A a.l.length a.c,.slice b.A b.l.length b.c] w fun e w'=>e = .returned (.bool (decide (a.l=b.l)))∧Below w.heap.size w w':=by
  have hn:=ha.len
  have hn2:=hb.len
  have HA:=Lib.hid ha
  have HB:=Lib.hid hb
  clear ha hb
  obtain ⟨A,c,l⟩:=a
  obtain ⟨B,d,m⟩:=b
  simp only at hn hn2 ⊢
  by_cases hlen : l.length=m.length
  · go_enter Try.func12,Try.ntmps12
    go_wp2_with fail
    have HLN:=Lib.hid hlen
    clear hlen
    go_loopw [5] (fun i wr=>∃ (k : Nat),k≤l.length∧i = .int .i64 k∧l.take k=m.take k∧Below w.heap.size w wr) (fun i _=>l.length - (intOf i).toNat)
    case atStart=>exact ⟨0,by omega,rfl,rfl,(by repeat (first | (with_reducible exact Below.refl _ _) | ((with_reducible refine below_setr ?_ ?_); focus (first | (simp; done) | (simp; omega) | omega)) | ((with_reducible refine below_allocr ?_ ?_); focus (first | (simp; done) | (simp; omega) | omega)) | (with_reducible refine Below.drew ?_) | (with_reducible refine below_drewN ?_ _)))⟩
    case round =>
      obtain ⟨k,hk,rfl,htk,hbel⟩:=hrel
      by_cases hlt : k<l.length
      · have hlt2 : k<m.length:=by have:=HLN.out; omega
        obtain ⟨b,o,hA,hb,hcl⟩:=HA.out.at1 hlt
        obtain ⟨b',o',hB,hb',hcl'⟩:=HB.out.at1 hlt2
        have hc1:=hcl.keep (hbel.block b hb)
        have hc2:=hcl'.keep (hbel.block b' hb')
        simp only at hA hB hc1 hc2
        have HL:=Lib.hid (List.getElem?_eq_getElem hlt)
        have HM:=Lib.hid (List.getElem?_eq_getElem hlt2)
        clear hcl hcl'
        subst hA hB
        generalize l[k]=x at *
        generalize m[k]=y at *
        rw [Nat.mul_one] at hc1 hc2
        have g0:=Cells.c1 hc1
        have k0:=Cells.c1 hc2
        clear hc1 hc2
        have HTK:=Lib.hid htk
        clear htk
        by_cases hxy : x=y
        · subst hxy
          go_wp2_with fail
          refine wp_region_T (fun W=>W.cell? ⟨b,o+k,none⟩=some (.int .i64 x)∧W.cell? ⟨b',o'+k,none⟩=some (.int .i64 x)) (fun _=>false) (by kernel_rfl) ⟨g0,k0⟩ (fun hHeld=>?_)
          refine wpAnyT_take2 (i:=0) (v:=?_) rfl rfl (by kernel_rfl) (by kernel_rfl) (by kernel_rfl) (by kernel_rfl) (fun _ _ _ h=>h) (Or.inl ⟨by rfl, ?_⟩) (by first | assumption | trivial) ?_
          rotate_left
          · (intro w hSw; (try dsimp only at hSw); go_simp) <;> (with_reducible rfl)
          simp only [List.setIfInBounds_toArray,List.set_cons_zero,List.set_cons_succ]
          refine wpAnyT_take2 (i:=1) (v:=?_) rfl rfl (by kernel_rfl) (by kernel_rfl) (by kernel_rfl) (by kernel_rfl) (fun _ _ _ h=>h) (Or.inl ⟨by rfl, ?_⟩) (by first | assumption | trivial) ?_
          rotate_left
          · (intro w hSw; (try dsimp only at hSw); go_simp) <;> (with_reducible rfl)
          simp only [List.setIfInBounds_toArray,List.set_cons_zero,List.set_cons_succ]
          refine wpAnyT_take2 (i:=2) (v:=?_) rfl rfl (by kernel_rfl) (by kernel_rfl) (by kernel_rfl) (by kernel_rfl) (fun _ _ _ h=>h) (Or.inl ⟨by rfl, ?_⟩) (by first | assumption | trivial) ?_
          rotate_left
          · (intro w hSw; (try dsimp only at hSw); go_simp) <;> (with_reducible rfl)
          simp only [List.setIfInBounds_toArray,List.set_cons_zero,List.set_cons_succ]
          refine wpAnyT_take2 (i:=3) (v:=?_) rfl rfl (by kernel_rfl) (by kernel_rfl) (by kernel_rfl) (by kernel_rfl) (fun _ _ _ h=>h) (Or.inl ⟨by rfl, ?_⟩) (by first | assumption | trivial) ?_
          rotate_left
          · (intro w hSw; (try dsimp only at hSw); go_simp) <;> (with_reducible rfl)
          simp only [List.setIfInBounds_toArray,List.set_cons_zero,List.set_cons_succ]
          refine wpAnyT_take2 (i:=4) (v:=?_) rfl rfl (by kernel_rfl) (by kernel_rfl) (by kernel_rfl) (by kernel_rfl) (fun _ _ _ h=>h) (Or.inl ⟨by rfl, ?_⟩) (by first | assumption | trivial) ?_
          rotate_left
          · (intro w hSw; (try dsimp only at hSw); go_simp) <;> (with_reducible rfl)
          simp only [List.setIfInBounds_toArray,List.set_cons_zero,List.set_cons_succ]
          refine wpAnyT_take2 (i:=5) (v:=?_) rfl rfl (by kernel_rfl) (by kernel_rfl) (by kernel_rfl) (by kernel_rfl) (fun _ _ _ h=>h) (Or.inl ⟨by rfl, ?_⟩) (by first | assumption | trivial) ?_
          rotate_left
          · (intro w hSw; (try dsimp only at hSw); go_simp) <;> (with_reducible rfl)
          simp only [List.setIfInBounds_toArray,List.set_cons_zero,List.set_cons_succ]
          refine wpAnyT_take2 (i:=6) (v:=?_) rfl rfl (by kernel_rfl) (by kernel_rfl) (by kernel_rfl) (by kernel_rfl) (fun _ _ _ h=>h) (Or.inl ⟨by rfl, ?_⟩) (by first | assumption | trivial) ?_
          rotate_left
          · (intro w hSw; (try dsimp only at hSw); go_simp) <;> (with_reducible rfl)
          simp only [List.setIfInBounds_toArray,List.set_cons_zero,List.set_cons_succ]
          refine wpAnyT_take2 (i:=7) (v:=?_) rfl rfl (by kernel_rfl) (by kernel_rfl) (by kernel_rfl) (by kernel_rfl) (fun _ _ _ h=>h) (Or.inl ⟨by rfl, ?_⟩) (by first | assumption | trivial) ?_
          rotate_left
          · (intro w hSw; (try dsimp only at hSw); go_simp) <;> (with_reducible rfl)
          simp only [List.setIfInBounds_toArray,List.set_cons_zero,List.set_cons_succ]
          clear hHeld
          have hHeld:=And.intro g0 k0
          refine wpAnyT_take2 (i:=8) (v:=.bool false) rfl rfl (by kernel_rfl) (by kernel_rfl) (by kernel_rfl) (by kernel_rfl) (fun _ _ _ h=>h) (Or.inl ⟨by rfl, ?_⟩) (by first | assumption | trivial) ?_
          · (intro w hSw; (try dsimp only at hSw); go_simp) <;> (first | (with_reducible rfl) | assumption | (simp; done) | (simp [*]; done) | (simp; omega))
          simp only [List.setIfInBounds_toArray,List.set_cons_zero,List.set_cons_succ]
          refine wpAnyT_done (by kernel_rfl) ?_ _
          clear hHeld
          go_wp2_with fail
          go_roundw
          case rel=>exact ⟨k+1,by omega,by go_num,take_succ_eq HTK.out HL.out HM.out,Below.drew hbel⟩
          case measure=>simp [intOf]; omega
        · have HNE:=Lib.hid (take_ne HL.out HM.out hxy)
          have hxb : (x == y)=false:=by simpa using hxy
          go_wp2_with fail
          refine wp_region_T (fun W=>W.cell? ⟨b,o+k,none⟩=some (.int .i64 x)∧W.cell? ⟨b',o'+k,none⟩=some (.int .i64 y)) (fun _=>false) (by kernel_rfl) ⟨g0,k0⟩ (fun hHeld=>?_)
          refine wpAnyT_take2 (i:=0) (v:=?_) rfl rfl (by kernel_rfl) (by kernel_rfl) (by kernel_rfl) (by kernel_rfl) (fun _ _ _ h=>h) (Or.inl ⟨by rfl, ?_⟩) (by first | assumption | trivial) ?_
          rotate_left
          · (intro w hSw; (try dsimp only at hSw); go_simp) <;> (with_reducible rfl)
          simp only [List.setIfInBounds_toArray,List.set_cons_zero,List.set_cons_succ]
          refine wpAnyT_take2 (i:=1) (v:=?_) rfl rfl (by kernel_rfl) (by kernel_rfl) (by kernel_rfl) (by kernel_rfl) (fun _ _ _ h=>h) (Or.inl ⟨by rfl, ?_⟩) (by first | assumption | trivial) ?_
          rotate_left
          · (intro w hSw; (try dsimp only at hSw); go_simp) <;> (with_reducible rfl)
          simp only [List.setIfInBounds_toArray,List.set_cons_zero,List.set_cons_succ]
          refine wpAnyT_take2 (i:=2) (v:=?_) rfl rfl (by kernel_rfl) (by kernel_rfl) (by kernel_rfl) (by kernel_rfl) (fun _ _ _ h=>h) (Or.inl ⟨by rfl, ?_⟩) (by first | assumption | trivial) ?_
          rotate_left
          · (intro w hSw; (try dsimp only at hSw); go_simp) <;> (with_reducible rfl)
          simp only [List.setIfInBounds_toArray,List.set_cons_zero,List.set_cons_succ]
          refine wpAnyT_take2 (i:=3) (v:=?_) rfl rfl (by kernel_rfl) (by kernel_rfl) (by kernel_rfl) (by kernel_rfl) (fun _ _ _ h=>h) (Or.inl ⟨by rfl, ?_⟩) (by first | assumption | trivial) ?_
          rotate_left
          · (intro w hSw; (try dsimp only at hSw); go_simp) <;> (with_reducible rfl)
          simp only [List.setIfInBounds_toArray,List.set_cons_zero,List.set_cons_succ]
          refine wpAnyT_take2 (i:=4) (v:=?_) rfl rfl (by kernel_rfl) (by kernel_rfl) (by kernel_rfl) (by kernel_rfl) (fun _ _ _ h=>h) (Or.inl ⟨by rfl, ?_⟩) (by first | assumption | trivial) ?_
          rotate_left
          · (intro w hSw; (try dsimp only at hSw); go_simp) <;> (with_reducible rfl)
          simp only [List.setIfInBounds_toArray,List.set_cons_zero,List.set_cons_succ]
          refine wpAnyT_take2 (i:=5) (v:=?_) rfl rfl (by kernel_rfl) (by kernel_rfl) (by kernel_rfl) (by kernel_rfl) (fun _ _ _ h=>h) (Or.inl ⟨by rfl, ?_⟩) (by first | assumption | trivial) ?_
          rotate_left
          · (intro w hSw; (try dsimp only at hSw); go_simp) <;> (with_reducible rfl)
          simp only [List.setIfInBounds_toArray,List.set_cons_zero,List.set_cons_succ]
          refine wpAnyT_take2 (i:=6) (v:=?_) rfl rfl (by kernel_rfl) (by kernel_rfl) (by kernel_rfl) (by kernel_rfl) (fun _ _ _ h=>h) (Or.inl ⟨by rfl, ?_⟩) (by first | assumption | trivial) ?_
          rotate_left
          · (intro w hSw; (try dsimp only at hSw); go_simp) <;> (with_reducible rfl)
          simp only [List.setIfInBounds_toArray,List.set_cons_zero,List.set_cons_succ]
          refine wpAnyT_take2 (i:=7) (v:=?_) rfl rfl (by kernel_rfl) (by kernel_rfl) (by kernel_rfl) (by kernel_rfl) (fun _ _ _ h=>h) (Or.inl ⟨by rfl, ?_⟩) (by first | assumption | trivial) ?_
          rotate_left
          · (intro w hSw; (try dsimp only at hSw); go_simp) <;> (with_reducible rfl)
          simp only [List.setIfInBounds_toArray,List.set_cons_zero,List.set_cons_succ]
          clear hHeld
          have hHeld:=And.intro g0 k0
          refine wpAnyT_take2 (i:=8) (v:=.bool true) rfl rfl (by kernel_rfl) (by kernel_rfl) (by kernel_rfl) (by kernel_rfl) (fun _ _ _ h=>h) (Or.inl ⟨by rfl, ?_⟩) (by first | assumption | trivial) ?_
          · (intro w hSw; (try dsimp only at hSw); go_simp) <;> (first | (with_reducible rfl) | assumption | (simp; done) | (simp [*]; done) | (simp; omega))
          simp only [List.setIfInBounds_toArray,List.set_cons_zero,List.set_cons_succ]
          refine wpAnyT_done (by kernel_rfl) ?_ _
          clear hHeld
          go_wp2_with fail
          go_ret
          exact ⟨ret_bool (decide_eq_false HNE.out).symm,Below.drew hbel⟩
      · have hlt3 : ¬ k<m.length:=by have:=HLN.out; omega
        have HEQ : Hid (l=m):=Lib.hid (by
          have:=HLN.out
          rw [List.take_of_length_le (by omega),List.take_of_length_le (by omega)] at htk
          exact htk)
        go_wp2_with fail
        go_ret
        exact ⟨ret_bool (decide_eq_true HEQ.out).symm,hbel⟩
  · have HNE : Hid (l≠m):=Lib.hid (fun e=>hlen (by rw [e]))
    have hln : ((l.length : Int) == (m.length : Int))=false:=by
      have : (l.length : Int)≠m.length:=by omega
      simpa using this
    go_enter Try.func12,Try.ntmps12
    go_wp2_with fail
    go_ret
    exact ⟨ret_bool (decide_eq_false HNE.out).symm,(by repeat (first | (with_reducible exact Below.refl _ _) | ((with_reducible refine below_setr ?_ ?_); focus (first | (simp; done) | (simp; omega) | omega)) | ((with_reducible refine below_allocr ?_ ?_); focus (first | (simp; done) | (simp; omega) | omega)) | (with_reducible refine Below.drew ?_) | (with_reducible refine below_drewN ?_ _)))⟩
theorem slices_EqualE (a b : Sl ED) (w : World) (ha : Rd (· < w.heap.size) 4 ED.enc w a) (hb : Rd (· < w.heap.size) 4 ED.enc w b) : Calls Try.prog 36 #[.slice a.A a.l.length a.c,.slice b.A b.l.length b.c] w fun e w'=>e = .returned (.bool (decide (a.l=b.l)))∧Below w.heap.size w w':=by
  have hn:=ha.len
  have hn2:=hb.len
  have HA:=Lib.hid ha
  have HB:=Lib.hid hb
  clear ha hb
  obtain ⟨A,c,l⟩:=a
  obtain ⟨B,d,m⟩:=b
  simp only at hn hn2 ⊢
  have qG:=edge_guard
  by_cases hlen : l.length=m.length
  · go_enter Try.func36,Try.ntmps36
    go_wp2_with fail
    have HLN:=Lib.hid hlen
    clear hlen
    go_loopw [13] (fun i wr=>∃ (k : Nat),k≤l.length∧i = .int .i64 k∧l.take k=m.take k∧Below w.heap.size w wr) (fun i _=>l.length - (intOf i).toNat)
    case atStart=>exact ⟨0,by omega,rfl,rfl,(by repeat (first | (with_reducible exact Below.refl _ _) | ((with_reducible refine below_setr ?_ ?_); focus (first | (simp; done) | (simp; omega) | omega)) | ((with_reducible refine below_allocr ?_ ?_); focus (first | (simp; done) | (simp; omega) | omega)) | (with_reducible refine Below.drew ?_) | (with_reducible refine below_drewN ?_ _)))⟩
    case round =>
      obtain ⟨k,hk,rfl,htk,hbel⟩:=hrel
      by_cases hlt : k<l.length
      · have hlt2 : k<m.length:=by have:=HLN.out; omega
        obtain ⟨b,o,hA,hb,hcl⟩:=HA.out.at1 hlt
        obtain ⟨b',o',hB,hb',hcl'⟩:=HB.out.at1 hlt2
        have hc1:=hcl.keep (hbel.block b hb)
        have hc2:=hcl'.keep (hbel.block b' hb')
        simp only at hA hB hc1 hc2
        have HL:=Lib.hid (List.getElem?_eq_getElem hlt)
        have HM:=Lib.hid (List.getElem?_eq_getElem hlt2)
        clear hcl hcl'
        subst hA hB
        generalize l[k]=x at *
        generalize m[k]=y at *
        obtain ⟨xf,xt,xn,xv⟩:=x
        obtain ⟨yf,yt,yn,yv⟩:=y
        obtain ⟨g0,g1,g2,g3⟩:=Cells.c4 hc1
        obtain ⟨k0,k1,k2,k3⟩:=Cells.c4 hc2
        clear hc1 hc2
        have HTK:=Lib.hid htk
        clear htk
        by_cases hxy : (⟨xf,xt,xn,xv⟩ : ED)=⟨yf,yt,yn,yv⟩
        · injection hxy with e1 e2 e3 e4
          subst e1 e2 e3 e4
          have qN:=fun w=>edge_neq xf xt xn xv xf xt xn xv w
          rw [decide_eq_true rfl] at qN
          go_wp2_with fail
          refine wp_region_T (fun W=>W.cell? ⟨b,o+k * 4,none⟩=some (.int .i64 xf)∧W.cell? ⟨b,o+k * 4+1,none⟩=some (.int .i64 xt)∧W.cell? ⟨b,o+k * 4+2,none⟩=some (.int .i64 xn)∧W.cell? ⟨b,o+k * 4+3,none⟩=some (.int .i64 xv)∧W.cell? ⟨b',o'+k * 4,none⟩=some (.int .i64 xf)∧W.cell? ⟨b',o'+k * 4+1,none⟩=some (.int .i64 xt)∧W.cell? ⟨b',o'+k * 4+2,none⟩=some (.int .i64 xn)∧W.cell? ⟨b',o'+k * 4+3,none⟩=some (.int .i64 xv)) (fun _=>false) (by kernel_rfl) ⟨g0,g1,g2,g3,k0,k1,k2,k3⟩ (fun hHeld=>?_)
          refine wpAnyT_take2 (i:=0) (v:=?_) rfl rfl (by kernel_rfl) (by kernel_rfl) (by kernel_rfl) (by kernel_rfl) (fun _ _ _ h=>h) (Or.inl ⟨by rfl, ?_⟩) (by first | assumption | trivial) ?_
          rotate_left
          · (intro w hSw; (try dsimp only at hSw); go_simp) <;> (with_reducible rfl)
          simp only [List.setIfInBounds_toArray,List.set_cons_zero,List.set_cons_succ]
          refine wpAnyT_take2 (i:=1) (v:=?_) rfl rfl (by kernel_rfl) (by kernel_rfl) (by kernel_rfl) (by kernel_rfl) (fun _ _ _ h=>h) (Or.inl ⟨by rfl, ?_⟩) (by first | assumption | trivial) ?_
          rotate_left
          · (intro w hSw; (try dsimp only at hSw); go_simp) <;> (with_reducible rfl)
          simp only [List.setIfInBounds_toArray,List.set_cons_zero,List.set_cons_succ]
          refine wpAnyT_take2 (i:=2) (v:=?_) rfl rfl (by kernel_rfl) (by kernel_rfl) (by kernel_rfl) (by kernel_rfl) (fun _ _ _ h=>h) (Or.inl ⟨by rfl, ?_⟩) (by first | assumption | trivial) ?_
          rotate_left
          · (intro w hSw; (try dsimp only at hSw); go_simp) <;> (with_reducible rfl)
          simp only [List.setIfInBounds_toArray,List.set_cons_zero,List.set_cons_succ]
          refine wpAnyT_take2 (i:=3) (v:=?_) rfl rfl (by kernel_rfl) (by kernel_rfl) (by kernel_rfl) (by kernel_rfl) (fun _ _ _ h=>h) (Or.inl ⟨by rfl, ?_⟩) (by first | assumption | trivial) ?_
          rotate_left
          · (intro w hSw; (try dsimp only at hSw); go_simp) <;> (with_reducible rfl)
          simp only [List.setIfInBounds_toArray,List.set_cons_zero,List.set_cons_succ]
          refine wpAnyT_take2 (i:=4) (v:=?_) rfl rfl (by kernel_rfl) (by kernel_rfl) (by kernel_rfl) (by kernel_rfl) (fun _ _ _ h=>h) (Or.inl ⟨by rfl, ?_⟩) (by first | assumption | trivial) ?_
          rotate_left
          · (intro w hSw; (try dsimp only at hSw); go_simp) <;> (with_reducible rfl)
          simp only [List.setIfInBounds_toArray,List.set_cons_zero,List.set_cons_succ]
          refine wpAnyT_take2 (i:=5) (v:=?_) rfl rfl (by kernel_rfl) (by kernel_rfl) (by kernel_rfl) (by kernel_rfl) (fun _ _ _ h=>h) (Or.inl ⟨by rfl, ?_⟩) (by first | assumption | trivial) ?_
          rotate_left
          · (intro w hSw; (try dsimp only at hSw); go_simp) <;> (with_reducible rfl)
          simp only [List.setIfInBounds_toArray,List.set_cons_zero,List.set_cons_succ]
          refine wpAnyT_take2 (i:=6) (v:=?_) rfl rfl (by kernel_rfl) (by kernel_rfl) (by kernel_rfl) (by kernel_rfl) (fun _ _ _ h=>h) (Or.inl ⟨by rfl, ?_⟩) (by first | assumption | trivial) ?_
          rotate_left
          · (intro w hSw; (try dsimp only at hSw); go_simp) <;> (with_reducible rfl)
          simp only [List.setIfInBounds_toArray,List.set_cons_zero,List.set_cons_succ]
          refine wpAnyT_take2 (i:=7) (v:=?_) rfl rfl (by kernel_rfl) (by kernel_rfl) (by kernel_rfl) (by kernel_rfl) (fun _ _ _ h=>h) (Or.inl ⟨by rfl, ?_⟩) (by first | assumption | trivial) ?_
          rotate_left
          · (intro w hSw; (try dsimp only at hSw); go_simp) <;> (with_reducible rfl)
          simp only [List.setIfInBounds_toArray,List.set_cons_zero,List.set_cons_succ]
          clear hHeld
          have hHeld:=And.intro g0 (And.intro g1 (And.intro g2 (And.intro g3 (And.intro k0 (And.intro k1 (And.intro k2 k3))))))
          refine wpAnyT_take2 (i:=8) (v:=.bool false) rfl rfl (by kernel_rfl) (by kernel_rfl) (by kernel_rfl) (by kernel_rfl) (fun _ _ _ h=>h) (Or.inl ⟨by rfl, ?_⟩) (by first | assumption | trivial) ?_
          · (intro w hSw; (try dsimp only at hSw); go_simp) <;> (first | (with_reducible rfl) | assumption | (simp; done) | (simp [*]; done) | (simp; omega))
          simp only [List.setIfInBounds_toArray,List.set_cons_zero,List.set_cons_succ]
          refine wpAnyT_done (by kernel_rfl) ?_ _
          clear hHeld
          go_wp2_with fail
          go_roundw
          case rel=>exact ⟨k+1,by omega,by go_num,take_succ_eq HTK.out HL.out HM.out,Below.drew hbel⟩
          case measure=>simp [intOf]; omega
        · have HNE:=Lib.hid (take_ne HL.out HM.out hxy)
          have qN:=fun w=>edge_neq xf xt xn xv yf yt yn yv w
          rw [decide_eq_false hxy] at qN
          go_wp2_with fail
          refine wp_region_T (fun W=>W.cell? ⟨b,o+k * 4,none⟩=some (.int .i64 xf)∧W.cell? ⟨b,o+k * 4+1,none⟩=some (.int .i64 xt)∧W.cell? ⟨b,o+k * 4+2,none⟩=some (.int .i64 xn)∧W.cell? ⟨b,o+k * 4+3,none⟩=some (.int .i64 xv)∧W.cell? ⟨b',o'+k * 4,none⟩=some (.int .i64 yf)∧W.cell? ⟨b',o'+k * 4+1,none⟩=some (.int .i64 yt)∧W.cell? ⟨b',o'+k * 4+2,none⟩=some (.int .i64 yn)∧W.cell? ⟨b',o'+k * 4+3,none⟩=some (.int .i64 yv)) (fun _=>false) (by kernel_rfl) ⟨g0,g1,g2,g3,k0,k1,k2,k3⟩ (fun hHeld=>?_)
          refine wpAnyT_take2 (i:=0) (v:=?_) rfl rfl (by kernel_rfl) (by kernel_rfl) (by kernel_rfl) (by kernel_rfl) (fun _ _ _ h=>h) (Or.inl ⟨by rfl, ?_⟩) (by first | assumption | trivial) ?_
          rotate_left
          · (intro w hSw; (try dsimp only at hSw); go_simp) <;> (with_reducible rfl)
          simp only [List.setIfInBounds_toArray,List.set_cons_zero,List.set_cons_succ]
          refine wpAnyT_take2 (i:=1) (v:=?_) rfl rfl (by kernel_rfl) (by kernel_rfl) (by kernel_rfl) (by kernel_rfl) (fun _ _ _ h=>h) (Or.inl ⟨by rfl, ?_⟩) (by first | assumption | trivial) ?_
          rotate_left
          · (intro w hSw; (try dsimp only at hSw); go_simp) <;> (with_reducible rfl)
          simp only [List.setIfInBounds_toArray,List.set_cons_zero,List.set_cons_succ]
          refine wpAnyT_take2 (i:=2) (v:=?_) rfl rfl (by kernel_rfl) (by kernel_rfl) (by kernel_rfl) (by kernel_rfl) (fun _ _ _ h=>h) (Or.inl ⟨by rfl, ?_⟩) (by first | assumption | trivial) ?_
          rotate_left
          · (intro w hSw; (try dsimp only at hSw); go_simp) <;> (with_reducible rfl)
          simp only [List.setIfInBounds_toArray,List.set_cons_zero,List.set_cons_succ]
          refine wpAnyT_take2 (i:=3) (v:=?_) rfl rfl (by kernel_rfl) (by kernel_rfl) (by kernel_rfl) (by kernel_rfl) (fun _ _ _ h=>h) (Or.inl ⟨by rfl, ?_⟩) (by first | assumption | trivial) ?_
          rotate_left
          · (intro w hSw; (try dsimp only at hSw); go_simp) <;> (with_reducible rfl)
          simp only [List.setIfInBounds_toArray,List.set_cons_zero,List.set_cons_succ]
          refine wpAnyT_take2 (i:=4) (v:=?_) rfl rfl (by kernel_rfl) (by kernel_rfl) (by kernel_rfl) (by kernel_rfl) (fun _ _ _ h=>h) (Or.inl ⟨by rfl, ?_⟩) (by first | assumption | trivial) ?_
          rotate_left
          · (intro w hSw; (try dsimp only at hSw); go_simp) <;> (with_reducible rfl)
          simp only [List.setIfInBounds_toArray,List.set_cons_zero,List.set_cons_succ]
          refine wpAnyT_take2 (i:=5) (v:=?_) rfl rfl (by kernel_rfl) (by kernel_rfl) (by kernel_rfl) (by kernel_rfl) (fun _ _ _ h=>h) (Or.inl ⟨by rfl, ?_⟩) (by first | assumption | trivial) ?_
          rotate_left
          · (intro w hSw; (try dsimp only at hSw); go_simp) <;> (with_reducible rfl)
          simp only [List.setIfInBounds_toArray,List.set_cons_zero,List.set_cons_succ]
          refine wpAnyT_take2 (i:=6) (v:=?_) rfl rfl (by kernel_rfl) (by kernel_rfl) (by kernel_rfl) (by kernel_rfl) (fun _ _ _ h=>h) (Or.inl ⟨by rfl, ?_⟩) (by first | assumption | trivial) ?_
          rotate_left
          · (intro w hSw; (try dsimp only at hSw); go_simp) <;> (with_reducible rfl)
          simp only [List.setIfInBounds_toArray,List.set_cons_zero,List.set_cons_succ]
          refine wpAnyT_take2 (i:=7) (v:=?_) rfl rfl (by kernel_rfl) (by kernel_rfl) (by kernel_rfl) (by kernel_rfl) (fun _ _ _ h=>h) (Or.inl ⟨by rfl, ?_⟩) (by first | assumption | trivial) ?_
          rotate_left
          · (intro w hSw; (try dsimp only at hSw); go_simp) <;> (with_reducible rfl)
          simp only [List.setIfInBounds_toArray,List.set_cons_zero,List.set_cons_succ]
          clear hHeld
          have hHeld:=And.intro g0 (And.intro g1 (And.intro g2 (And.intro g3 (And.intro k0 (And.intro k1 (And.intro k2 k3))))))
          refine wpAnyT_take2 (i:=8) (v:=.bool true) rfl rfl (by kernel_rfl) (by kernel_rfl) (by kernel_rfl) (by kernel_rfl) (fun _ _ _ h=>h) (Or.inl ⟨by rfl, ?_⟩) (by first | assumption | trivial) ?_
          · (intro w hSw; (try dsimp only at hSw); go_simp) <;> (first | (with_reducible rfl) | assumption | (simp; done) | (simp [*]; done) | (simp; omega))
          simp only [List.setIfInBounds_toArray,List.set_cons_zero,List.set_cons_succ]
          refine wpAnyT_done (by kernel_rfl) ?_ _
          clear hHeld
          go_wp2_with fail
          go_ret
          exact ⟨ret_bool (decide_eq_false HNE.out).symm,Below.drew hbel⟩
      · have hlt3 : ¬ k<m.length:=by have:=HLN.out; omega
        have HEQ : Hid (l=m):=Lib.hid (by
          have:=HLN.out
          rw [List.take_of_length_le (by omega),List.take_of_length_le (by omega)] at htk
          exact htk)
        go_wp2_with fail
        go_ret
        exact ⟨ret_bool (decide_eq_true HEQ.out).symm,hbel⟩
  · have HNE : Hid (l≠m):=Lib.hid (fun e=>hlen (by rw [e]))
    have hln : ((l.length : Int) == (m.length : Int))=false:=by
      have : (l.length : Int)≠m.length:=by omega
      simpa using this
    go_enter Try.func36,Try.ntmps36
    go_wp2_with fail
    go_ret
    exact ⟨ret_bool (decide_eq_false HNE.out).symm,(by repeat (first | (with_reducible exact Below.refl _ _) | ((with_reducible refine below_setr ?_ ?_); focus (first | (simp; done) | (simp; omega) | omega)) | ((with_reducible refine below_allocr ?_ ?_); focus (first | (simp; done) | (simp; omega) | omega)) | (with_reducible refine Below.drew ?_) | (with_reducible refine below_drewN ?_ _)))⟩
theorem r13_Same (a b : Sl ED) (w : World) (ha : Rd (· < w.heap.size) 4 ED.enc w a) (hb : Rd (· < w.heap.size) 4 ED.enc w b) : Calls Try.prog 13 #[.slice a.A a.l.length a.c,.slice b.A b.l.length b.c] w fun e w'=>e = .returned (.bool (decide (a.l=b.l)))∧Below w.heap.size w w':=by
  have hn:=ha.len
  have hn2:=hb.len
  have HA:=Lib.hid ha
  have HB:=Lib.hid hb
  clear ha hb
  obtain ⟨A,c,l⟩:=a
  obtain ⟨B,d,m⟩:=b
  simp only at hn hn2 ⊢
  have qG:=edge_guard
  by_cases hlen : l.length=m.length
  · go_enter Try.func13,Try.ntmps13
    go_wp2_with fail
    have HLN:=Lib.hid hlen
    clear hlen
    go_loopw [5] (fun i wr=>∃ (k : Nat),k≤l.length∧i = .int .i64 k∧l.take k=m.take k∧Below w.heap.size w wr) (fun i _=>l.length - (intOf i).toNat)
    case atStart=>exact ⟨0,by omega,rfl,rfl,(by repeat (first | (with_reducible exact Below.refl _ _) | ((with_reducible refine below_setr ?_ ?_); focus (first | (simp; done) | (simp; omega) | omega)) | ((with_reducible refine below_allocr ?_ ?_); focus (first | (simp; done) | (simp; omega) | omega)) | (with_reducible refine Below.drew ?_) | (with_reducible refine below_drewN ?_ _)))⟩
    case round =>
      obtain ⟨k,hk,rfl,htk,hbel⟩:=hrel
      by_cases hlt : k<l.length
      · have hlt2 : k<m.length:=by have:=HLN.out; omega
        obtain ⟨b,o,hA,hb,hcl⟩:=HA.out.at1 hlt
        obtain ⟨b',o',hB,hb',hcl'⟩:=HB.out.at1 hlt2
        have hc1:=hcl.keep (hbel.block b hb)
        have hc2:=hcl'.keep (hbel.block b' hb')
        simp only at hA hB hc1 hc2
        have HL:=Lib.hid (List.getElem?_eq_getElem hlt)
        have HM:=Lib.hid (List.getElem?_eq_getElem hlt2)
        clear hcl hcl'
        subst hA hB
        generalize l[k]=x at *
        generalize m[k]=y at *
        obtain ⟨xf,xt,xn,xv⟩:=x
        obtain ⟨yf,yt,yn,yv⟩:=y
        obtain ⟨g0,g1,g2,g3⟩:=Cells.c4 hc1
        obtain ⟨k0,k1,k2,k3⟩:=Cells.c4 hc2
        clear hc1 hc2
        have HTK:=Lib.hid htk
        clear htk
        by_cases hxy : (⟨xf,xt,xn,xv⟩ : ED)=⟨yf,yt,yn,yv⟩
        · injection hxy with e1 e2 e3 e4
          subst e1 e2 e3 e4
          have qN:=fun w=>edge_neq xf xt xn xv xf xt xn xv w
          rw [decide_eq_true rfl] at qN
          go_wp2_with fail
          refine wp_region_T (fun W=>W.cell? ⟨b,o+k * 4,none⟩=some (.int .i64 xf)∧W.cell? ⟨b,o+k * 4+1,none⟩=some (.int .i64 xt)∧W.cell? ⟨b,o+k * 4+2,none⟩=some (.int .i64 xn)∧W.cell? ⟨b,o+k * 4+3,none⟩=some (.int .i64 xv)∧W.cell? ⟨b',o'+k * 4,none⟩=some (.int .i64 xf)∧W.cell? ⟨b',o'+k * 4+1,none⟩=some (.int .i64 xt)∧W.cell? ⟨b',o'+k * 4+2,none⟩=some (.int .i64 xn)∧W.cell? ⟨b',o'+k * 4+3,none⟩=some (.int .i64 xv)) (fun _=>false) (by kernel_rfl) ⟨g0,g1,g2,g3,k0,k1,k2,k3⟩ (fun hHeld=>?_)
          refine wpAnyT_take2 (i:=0) (v:=?_) rfl rfl (by kernel_rfl) (by kernel_rfl) (by kernel_rfl) (by kernel_rfl) (fun _ _ _ h=>h) (Or.inl ⟨by rfl, ?_⟩) (by first | assumption | trivial) ?_
          rotate_left
          · (intro w hSw; (try dsimp only at hSw); go_simp) <;> (with_reducible rfl)
          simp only [List.setIfInBounds_toArray,List.set_cons_zero,List.set_cons_succ]
          refine wpAnyT_take2 (i:=1) (v:=?_) rfl rfl (by kernel_rfl) (by kernel_rfl) (by kernel_rfl) (by kernel_rfl) (fun _ _ _ h=>h) (Or.inl ⟨by rfl, ?_⟩) (by first | assumption | trivial) ?_
          rotate_left
          · (intro w hSw; (try dsimp only at hSw); go_simp) <;> (with_reducible rfl)
          simp only [List.setIfInBounds_toArray,List.set_cons_zero,List.set_cons_succ]
          refine wpAnyT_take2 (i:=2) (v:=?_) rfl rfl (by kernel_rfl) (by kernel_rfl) (by kernel_rfl) (by kernel_rfl) (fun _ _ _ h=>h) (Or.inl ⟨by rfl, ?_⟩) (by first | assumption | trivial) ?_
          rotate_left
          · (intro w hSw; (try dsimp only at hSw); go_simp) <;> (with_reducible rfl)
          simp only [List.setIfInBounds_toArray,List.set_cons_zero,List.set_cons_succ]
          refine wpAnyT_take2 (i:=3) (v:=?_) rfl rfl (by kernel_rfl) (by kernel_rfl) (by kernel_rfl) (by kernel_rfl) (fun _ _ _ h=>h) (Or.inl ⟨by rfl, ?_⟩) (by first | assumption | trivial) ?_
          rotate_left
          · (intro w hSw; (try dsimp only at hSw); go_simp) <;> (with_reducible rfl)
          simp only [List.setIfInBounds_toArray,List.set_cons_zero,List.set_cons_succ]
          refine wpAnyT_take2 (i:=4) (v:=?_) rfl rfl (by kernel_rfl) (by kernel_rfl) (by kernel_rfl) (by kernel_rfl) (fun _ _ _ h=>h) (Or.inl ⟨by rfl, ?_⟩) (by first | assumption | trivial) ?_
          rotate_left
          · (intro w hSw; (try dsimp only at hSw); go_simp) <;> (with_reducible rfl)
          simp only [List.setIfInBounds_toArray,List.set_cons_zero,List.set_cons_succ]
          refine wpAnyT_take2 (i:=5) (v:=?_) rfl rfl (by kernel_rfl) (by kernel_rfl) (by kernel_rfl) (by kernel_rfl) (fun _ _ _ h=>h) (Or.inl ⟨by rfl, ?_⟩) (by first | assumption | trivial) ?_
          rotate_left
          · (intro w hSw; (try dsimp only at hSw); go_simp) <;> (with_reducible rfl)
          simp only [List.setIfInBounds_toArray,List.set_cons_zero,List.set_cons_succ]
          refine wpAnyT_take2 (i:=6) (v:=?_) rfl rfl (by kernel_rfl) (by kernel_rfl) (by kernel_rfl) (by kernel_rfl) (fun _ _ _ h=>h) (Or.inl ⟨by rfl, ?_⟩) (by first | assumption | trivial) ?_
          rotate_left
          · (intro w hSw; (try dsimp only at hSw); go_simp) <;> (with_reducible rfl)
          simp only [List.setIfInBounds_toArray,List.set_cons_zero,List.set_cons_succ]
          refine wpAnyT_take2 (i:=7) (v:=?_) rfl rfl (by kernel_rfl) (by kernel_rfl) (by kernel_rfl) (by kernel_rfl) (fun _ _ _ h=>h) (Or.inl ⟨by rfl, ?_⟩) (by first | assumption | trivial) ?_
          rotate_left
          · (intro w hSw; (try dsimp only at hSw); go_simp) <;> (with_reducible rfl)
          simp only [List.setIfInBounds_toArray,List.set_cons_zero,List.set_cons_succ]
          clear hHeld
          have hHeld:=And.intro g0 (And.intro g1 (And.intro g2 (And.intro g3 (And.intro k0 (And.intro k1 (And.intro k2 k3))))))
          refine wpAnyT_take2 (i:=8) (v:=.bool false) rfl rfl (by kernel_rfl) (by kernel_rfl) (by kernel_rfl) (by kernel_rfl) (fun _ _ _ h=>h) (Or.inl ⟨by rfl, ?_⟩) (by first | assumption | trivial) ?_
          · (intro w hSw; (try dsimp only at hSw); go_simp) <;> (first | (with_reducible rfl) | assumption | (simp; done) | (simp [*]; done) | (simp; omega))
          simp only [List.setIfInBounds_toArray,List.set_cons_zero,List.set_cons_succ]
          refine wpAnyT_done (by kernel_rfl) ?_ _
          clear hHeld
          go_wp2_with fail
          go_roundw
          case rel=>exact ⟨k+1,by omega,by go_num,take_succ_eq HTK.out HL.out HM.out,Below.drew hbel⟩
          case measure=>simp [intOf]; omega
        · have HNE:=Lib.hid (take_ne HL.out HM.out hxy)
          have qN:=fun w=>edge_neq xf xt xn xv yf yt yn yv w
          rw [decide_eq_false hxy] at qN
          go_wp2_with fail
          refine wp_region_T (fun W=>W.cell? ⟨b,o+k * 4,none⟩=some (.int .i64 xf)∧W.cell? ⟨b,o+k * 4+1,none⟩=some (.int .i64 xt)∧W.cell? ⟨b,o+k * 4+2,none⟩=some (.int .i64 xn)∧W.cell? ⟨b,o+k * 4+3,none⟩=some (.int .i64 xv)∧W.cell? ⟨b',o'+k * 4,none⟩=some (.int .i64 yf)∧W.cell? ⟨b',o'+k * 4+1,none⟩=some (.int .i64 yt)∧W.cell? ⟨b',o'+k * 4+2,none⟩=some (.int .i64 yn)∧W.cell? ⟨b',o'+k * 4+3,none⟩=some (.int .i64 yv)) (fun _=>false) (by kernel_rfl) ⟨g0,g1,g2,g3,k0,k1,k2,k3⟩ (fun hHeld=>?_)
          refine wpAnyT_take2 (i:=0) (v:=?_) rfl rfl (by kernel_rfl) (by kernel_rfl) (by kernel_rfl) (by kernel_rfl) (fun _ _ _ h=>h) (Or.inl ⟨by rfl, ?_⟩) (by first | assumption | trivial) ?_
          rotate_left
          · (intro w hSw; (try dsimp only at hSw); go_simp) <;> (with_reducible rfl)
          simp only [List.setIfInBounds_toArray,List.set_cons_zero,List.set_cons_succ]
          refine wpAnyT_take2 (i:=1) (v:=?_) rfl rfl (by kernel_rfl) (by kernel_rfl) (by kernel_rfl) (by kernel_rfl) (fun _ _ _ h=>h) (Or.inl ⟨by rfl, ?_⟩) (by first | assumption | trivial) ?_
          rotate_left
          · (intro w hSw; (try dsimp only at hSw); go_simp) <;> (with_reducible rfl)
          simp only [List.setIfInBounds_toArray,List.set_cons_zero,List.set_cons_succ]
          refine wpAnyT_take2 (i:=2) (v:=?_) rfl rfl (by kernel_rfl) (by kernel_rfl) (by kernel_rfl) (by kernel_rfl) (fun _ _ _ h=>h) (Or.inl ⟨by rfl, ?_⟩) (by first | assumption | trivial) ?_
          rotate_left
          · (intro w hSw; (try dsimp only at hSw); go_simp) <;> (with_reducible rfl)
          simp only [List.setIfInBounds_toArray,List.set_cons_zero,List.set_cons_succ]
          refine wpAnyT_take2 (i:=3) (v:=?_) rfl rfl (by kernel_rfl) (by kernel_rfl) (by kernel_rfl) (by kernel_rfl) (fun _ _ _ h=>h) (Or.inl ⟨by rfl, ?_⟩) (by first | assumption | trivial) ?_
          rotate_left
          · (intro w hSw; (try dsimp only at hSw); go_simp) <;> (with_reducible rfl)
          simp only [List.setIfInBounds_toArray,List.set_cons_zero,List.set_cons_succ]
          refine wpAnyT_take2 (i:=4) (v:=?_) rfl rfl (by kernel_rfl) (by kernel_rfl) (by kernel_rfl) (by kernel_rfl) (fun _ _ _ h=>h) (Or.inl ⟨by rfl, ?_⟩) (by first | assumption | trivial) ?_
          rotate_left
          · (intro w hSw; (try dsimp only at hSw); go_simp) <;> (with_reducible rfl)
          simp only [List.setIfInBounds_toArray,List.set_cons_zero,List.set_cons_succ]
          refine wpAnyT_take2 (i:=5) (v:=?_) rfl rfl (by kernel_rfl) (by kernel_rfl) (by kernel_rfl) (by kernel_rfl) (fun _ _ _ h=>h) (Or.inl ⟨by rfl, ?_⟩) (by first | assumption | trivial) ?_
          rotate_left
          · (intro w hSw; (try dsimp only at hSw); go_simp) <;> (with_reducible rfl)
          simp only [List.setIfInBounds_toArray,List.set_cons_zero,List.set_cons_succ]
          refine wpAnyT_take2 (i:=6) (v:=?_) rfl rfl (by kernel_rfl) (by kernel_rfl) (by kernel_rfl) (by kernel_rfl) (fun _ _ _ h=>h) (Or.inl ⟨by rfl, ?_⟩) (by first | assumption | trivial) ?_
          rotate_left
          · (intro w hSw; (try dsimp only at hSw); go_simp) <;> (with_reducible rfl)
          simp only [List.setIfInBounds_toArray,List.set_cons_zero,List.set_cons_succ]
          refine wpAnyT_take2 (i:=7) (v:=?_) rfl rfl (by kernel_rfl) (by kernel_rfl) (by kernel_rfl) (by kernel_rfl) (fun _ _ _ h=>h) (Or.inl ⟨by rfl, ?_⟩) (by first | assumption | trivial) ?_
          rotate_left
          · (intro w hSw; (try dsimp only at hSw); go_simp) <;> (with_reducible rfl)
          simp only [List.setIfInBounds_toArray,List.set_cons_zero,List.set_cons_succ]
          clear hHeld
          have hHeld:=And.intro g0 (And.intro g1 (And.intro g2 (And.intro g3 (And.intro k0 (And.intro k1 (And.intro k2 k3))))))
          refine wpAnyT_take2 (i:=8) (v:=.bool true) rfl rfl (by kernel_rfl) (by kernel_rfl) (by kernel_rfl) (by kernel_rfl) (fun _ _ _ h=>h) (Or.inl ⟨by rfl, ?_⟩) (by first | assumption | trivial) ?_
          · (intro w hSw; (try dsimp only at hSw); go_simp) <;> (first | (with_reducible rfl) | assumption | (simp; done) | (simp [*]; done) | (simp; omega))
          simp only [List.setIfInBounds_toArray,List.set_cons_zero,List.set_cons_succ]
          refine wpAnyT_done (by kernel_rfl) ?_ _
          clear hHeld
          go_wp2_with fail
          go_ret
          exact ⟨ret_bool (decide_eq_false HNE.out).symm,Below.drew hbel⟩
      · have hlt3 : ¬ k<m.length:=by have:=HLN.out; omega
        have HEQ : Hid (l=m):=Lib.hid (by
          have:=HLN.out
          rw [List.take_of_length_le (by omega),List.take_of_length_le (by omega)] at htk
          exact htk)
        go_wp2_with fail
        go_ret
        exact ⟨ret_bool (decide_eq_true HEQ.out).symm,hbel⟩
  · have HNE : Hid (l≠m):=Lib.hid (fun e=>hlen (by rw [e]))
    have hln : ((l.length : Int) == (m.length : Int))=false:=by
      have : (l.length : Int)≠m.length:=by omega
      simpa using this
    go_enter Try.func13,Try.ntmps13
    go_wp2_with fail
    go_ret
    exact ⟨ret_bool (decide_eq_false HNE.out).symm,(by repeat (first | (with_reducible exact Below.refl _ _) | ((with_reducible refine below_setr ?_ ?_); focus (first | (simp; done) | (simp; omega) | omega)) | ((with_reducible refine below_allocr ?_ ?_); focus (first | (simp; done) | (simp; omega) | omega)) | (with_reducible refine Below.drew ?_) | (with_reducible refine below_drewN ?_ _)))⟩
end Go.Proofs.Ytlbihfbeamlacaa
