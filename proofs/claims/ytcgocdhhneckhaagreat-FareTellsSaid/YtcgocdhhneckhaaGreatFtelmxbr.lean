/- Walk of tonneauref31.table. -/
import Derived.Test.YtcgocdhhneckhaaGreatFtelmxbq
set_option maxRecDepth 100000
set_option maxHeartbeats 6400000
namespace Go.Proofs.YtcgocdhhneckhaaGreat
open Go.RowKit
theorem r31_tab_log12 (s : Sl Int) (w : World) (hr : Rd (· < w.heap.size) 1 ienc w s) : Calls Tryz.prog 113 #[.int .i64 12,.slice s.A s.l.length s.c] w fun r w'=>r = .returned (.int .i64 (joinU 12 s.l))∧Below w.heap.size w w':=by
 obtain ⟨A,c,l⟩:=s;have hn:=hr.len;simp only at hn;have HR:=Zh hr;clear hr;simp only;have HJ:=Zh (fun r hr=>join_log (op:=12) (l:=l) (by decide) r hr);obtain ⟨V,hV⟩ : ∃ V,joinU 12 l=V:=⟨_,rfl⟩;rw [hV] at HJ ⊢;clear hV;go_enter Tryz.func113,Tryz.ntmps113;go_wp2_with fail;go_loopw [5] (fun i wr=>∃ (j : Nat),j≤l.length∧i = .int .i64 j∧Below w.heap.size w wr∧Hid (allB (l.take j)=true)) (fun i _=>l.length - (intOf i).toNat)
 case atStart=>exact ⟨0,by omega,rfl,Below.refl _ _,Zh rfl⟩
 case round =>
  obtain ⟨j,hj,rfl,hbel,HT⟩:=hrel;by_cases hjl : j<l.length
  ·obtain ⟨b,o,hA,_,d0⟩:=(HR.out.later hbel).geti hjl;simp only at hA d0;subst hA
   have HTJ : Hid (allB (l.take (j+1))=decide (l[j]=3)):=Zh (by
    have h:=HT.out;unfold allB at h ⊢;rw [List.take_succ_eq_append_getElem hjl,List.all_append,h]
    simp)
   have HNO : Hid (¬ l[j]=3→V = -1):=Zh (fun h=>by
    have hf : allB l=false:=by
     unfold allB;exact List.all_eq_false.2 ⟨l[j],List.getElem_mem hjl,by simpa using h⟩
    rw [HJ.out _ hf]; rfl)
   generalize l[j]=y at *;by_cases hy : y=3
   ·have HT2 : Hid (allB (l.take (j+1))=true):=Zh (by rw [HTJ.out]; simpa using hy);subst hy;clear HTJ HNO;go_wp2_with fail;go_roundw
    case rel=>exact ⟨j+1,by omega,by go_num,hbel,HT2⟩
    case measure=>simp [intOf]; omega
   ·have HV:=Zh (HNO.out hy);clear HTJ HNO;go_wp2_with fail;go_ret;exact ⟨ret_int HV.out.symm,hbel⟩
  ·have HV : Hid (V=3):=Zh (by
    have h:=HT.out;rw [List.take_of_length_le Zo] at h;rw [HJ.out _ h]; rfl)
   clear HT HJ;go_wp2_with fail;go_ret;exact ⟨ret_int HV.out.symm,hbel⟩
theorem r31_tab_log13 (s : Sl Int) (w : World) (hr : Rd (· < w.heap.size) 1 ienc w s) : Calls Tryz.prog 113 #[.int .i64 13,.slice s.A s.l.length s.c] w fun r w'=>r = .returned (.int .i64 (joinU 13 s.l))∧Below w.heap.size w w':=by
 obtain ⟨A,c,l⟩:=s;have hn:=hr.len;simp only at hn;have HR:=Zh hr;clear hr;simp only;have HJ:=Zh (fun r hr=>join_log (op:=13) (l:=l) (by decide) r hr);obtain ⟨V,hV⟩ : ∃ V,joinU 13 l=V:=⟨_,rfl⟩;rw [hV] at HJ ⊢;clear hV;go_enter Tryz.func113,Tryz.ntmps113;go_wp2_with fail;go_loopw [5] (fun i wr=>∃ (j : Nat),j≤l.length∧i = .int .i64 j∧Below w.heap.size w wr∧Hid (allB (l.take j)=true)) (fun i _=>l.length - (intOf i).toNat)
 case atStart=>exact ⟨0,by omega,rfl,Below.refl _ _,Zh rfl⟩
 case round =>
  obtain ⟨j,hj,rfl,hbel,HT⟩:=hrel;by_cases hjl : j<l.length
  ·obtain ⟨b,o,hA,_,d0⟩:=(HR.out.later hbel).geti hjl;simp only at hA d0;subst hA
   have HTJ : Hid (allB (l.take (j+1))=decide (l[j]=3)):=Zh (by
    have h:=HT.out;unfold allB at h ⊢;rw [List.take_succ_eq_append_getElem hjl,List.all_append,h]
    simp)
   have HNO : Hid (¬ l[j]=3→V = -1):=Zh (fun h=>by
    have hf : allB l=false:=by
     unfold allB;exact List.all_eq_false.2 ⟨l[j],List.getElem_mem hjl,by simpa using h⟩
    rw [HJ.out _ hf]; rfl)
   generalize l[j]=y at *;by_cases hy : y=3
   ·have HT2 : Hid (allB (l.take (j+1))=true):=Zh (by rw [HTJ.out]; simpa using hy);subst hy;clear HTJ HNO;go_wp2_with fail;go_roundw
    case rel=>exact ⟨j+1,by omega,by go_num,hbel,HT2⟩
    case measure=>simp [intOf]; omega
   ·have HV:=Zh (HNO.out hy);clear HTJ HNO;go_wp2_with fail;go_ret;exact ⟨ret_int HV.out.symm,hbel⟩
  ·have HV : Hid (V=3):=Zh (by
    have h:=HT.out;rw [List.take_of_length_le Zo] at h;rw [HJ.out _ h]; rfl)
   clear HT HJ;go_wp2_with fail;go_ret;exact ⟨ret_int HV.out.symm,hbel⟩
theorem r31_tab_log14 (s : Sl Int) (w : World) (hr : Rd (· < w.heap.size) 1 ienc w s) : Calls Tryz.prog 113 #[.int .i64 14,.slice s.A s.l.length s.c] w fun r w'=>r = .returned (.int .i64 (joinU 14 s.l))∧Below w.heap.size w w':=by
 obtain ⟨A,c,l⟩:=s;have hn:=hr.len;simp only at hn;have HR:=Zh hr;clear hr;simp only;have HJ:=Zh (fun r hr=>join_log (op:=14) (l:=l) (by decide) r hr);obtain ⟨V,hV⟩ : ∃ V,joinU 14 l=V:=⟨_,rfl⟩;rw [hV] at HJ ⊢;clear hV;go_enter Tryz.func113,Tryz.ntmps113;go_wp2_with fail;go_loopw [5] (fun i wr=>∃ (j : Nat),j≤l.length∧i = .int .i64 j∧Below w.heap.size w wr∧Hid (allB (l.take j)=true)) (fun i _=>l.length - (intOf i).toNat)
 case atStart=>exact ⟨0,by omega,rfl,Below.refl _ _,Zh rfl⟩
 case round =>
  obtain ⟨j,hj,rfl,hbel,HT⟩:=hrel;by_cases hjl : j<l.length
  ·obtain ⟨b,o,hA,_,d0⟩:=(HR.out.later hbel).geti hjl;simp only at hA d0;subst hA
   have HTJ : Hid (allB (l.take (j+1))=decide (l[j]=3)):=Zh (by
    have h:=HT.out;unfold allB at h ⊢;rw [List.take_succ_eq_append_getElem hjl,List.all_append,h]
    simp)
   have HNO : Hid (¬ l[j]=3→V = -1):=Zh (fun h=>by
    have hf : allB l=false:=by
     unfold allB;exact List.all_eq_false.2 ⟨l[j],List.getElem_mem hjl,by simpa using h⟩
    rw [HJ.out _ hf]; rfl)
   generalize l[j]=y at *;by_cases hy : y=3
   ·have HT2 : Hid (allB (l.take (j+1))=true):=Zh (by rw [HTJ.out]; simpa using hy);subst hy;clear HTJ HNO;go_wp2_with fail;go_roundw
    case rel=>exact ⟨j+1,by omega,by go_num,hbel,HT2⟩
    case measure=>simp [intOf]; omega
   ·have HV:=Zh (HNO.out hy);clear HTJ HNO;go_wp2_with fail;go_ret;exact ⟨ret_int HV.out.symm,hbel⟩
  ·have HV : Hid (V=3):=Zh (by
    have h:=HT.out;rw [List.take_of_length_le Zo] at h;rw [HJ.out _ h]; rfl)
   clear HT HJ;go_wp2_with fail;go_ret;exact ⟨ret_int HV.out.symm,hbel⟩
theorem r31_tab_if1 (a b d : Int) (A : Option Addr) (c : Nat) (w : World) (hr : Rd (· < w.heap.size) 1 ienc w ⟨A,c,[a,b,d]⟩) (ha : ¬ a=3) : Calls Tryz.prog 113 #[.int .i64 15,.slice A 3 c] w fun r w'=>r = .returned (.int .i64 (joinU 15 [a,b,d]))∧Below w.heap.size w w':=by
 rw [join_if,if_neg (fun h=>ha h.1)];have ha3 : (a != 3)=true:=bne_iff_ne.2 ha;obtain ⟨g,o,hA,_,c0⟩:=hr.geti (i:=0) Zs;obtain ⟨g',o',hA',_,c1⟩:=hr.geti (i:=1) Zs;obtain ⟨g2,o2,hA2,_,c2⟩:=hr.geti (i:=2) Zs;simp only at hA hA' hA2;rw [hA] at hA' hA2;injection hA' with hA';injection hA' with hg ho _;injection hA2 with hA2;injection hA2 with hg2 ho2 _;subst hg ho hg2 ho2 hA;simp only [List.getElem_cons_zero,List.getElem_cons_succ,Nat.add_zero] at c0 c1 c2;clear hr;go_enter Tryz.func113,Tryz.ntmps113;go_wp2_with fail;refine wp_region_T (fun W=>W.cell? ⟨g,o,none⟩=some (.int .i64 a)∧W.cell? ⟨g,o+1,none⟩=some (.int .i64 b)∧W.cell? ⟨g,o+2,none⟩=some (.int .i64 d)) (fun _=>false) Zy ⟨c0,c1,c2⟩ (fun hHeld=>?_);refine Zr 0 ?_;refine Zr 1 ?_;refine Zr 2 ?_;clear hHeld;have hHeld : w.cell? ⟨g,o,none⟩=some (.int .i64 a)∧w.cell? ⟨g,o+1,none⟩=some (.int .i64 b)∧w.cell? ⟨g,o+2,none⟩=some (.int .i64 d):=⟨c0,c1,c2⟩;refine wpAnyT_take2 (i:=3) (v:=.bool true) rfl rfl Zy Zy Zy Zy (fun _ _ _ h=>h) (Or.inl ⟨by rfl, ?_⟩) (by first | assumption | trivial) ?_
 ·(intro w hSw; (try dsimp only at hSw); go_simp) <;> (first | (with_reducible rfl) | assumption | (simp; done) | (simp [*]; done) | (simp; omega))
 simp only [qsa,qsb,qsc];refine Zr 4 ?_;refine Zm 5 ?_;refine Zm 6 ?_;refine Zm 7 ?_;refine Zm 8 ?_;refine Zm 9 ?_;refine Zm 10 ?_;refine Zm 11 ?_;refine Zr 12 ?_;refine Ze ?_;clear hHeld;go_wp2_with fail;go_ret;exact ⟨rfl,Below.drew Zz⟩
theorem r31_tab_if2 (b d : Int) (A : Option Addr) (c : Nat) (w : World) (hr : Rd (· < w.heap.size) 1 ienc w ⟨A,c,[3,b,d]⟩) : Calls Tryz.prog 113 #[.int .i64 15,.slice A 3 c] w fun r w'=>r = .returned (.int .i64 (joinU 15 [3,b,d]))∧Below w.heap.size w w':=by
 rw [join_if];obtain ⟨a,ha⟩ : ∃ a : Int,a=3:=⟨_,rfl⟩;by_cases hbd : b=d
 ·rw [if_pos ⟨rfl,hbd⟩];rw [← ha] at hr;(have ha3 : (a != 3)=false:=by simpa using ha);(have hbd3 : (b != d)=false:=by simpa using hbd);have HA3:=Zh ha;clear ha hbd;obtain ⟨g,o,hA,_,c0⟩:=hr.geti (i:=0) Zs;obtain ⟨g',o',hA',_,c1⟩:=hr.geti (i:=1) Zs;obtain ⟨g2,o2,hA2,_,c2⟩:=hr.geti (i:=2) Zs;simp only at hA hA' hA2;rw [hA] at hA' hA2;injection hA' with hA';injection hA' with hg ho _;injection hA2 with hA2;injection hA2 with hg2 ho2 _;subst hg ho hg2 ho2 hA;simp only [List.getElem_cons_zero,List.getElem_cons_succ,Nat.add_zero] at c0 c1 c2;clear hr;go_enter Tryz.func113,Tryz.ntmps113;go_wp2_with fail;refine wp_region_T (fun W=>W.cell? ⟨g,o,none⟩=some (.int .i64 a)∧W.cell? ⟨g,o+1,none⟩=some (.int .i64 b)∧W.cell? ⟨g,o+2,none⟩=some (.int .i64 d)) (fun _=>false) Zy ⟨c0,c1,c2⟩ (fun hHeld=>?_);refine Zr 0 ?_;refine Zr 1 ?_;refine Zr 2 ?_;clear hHeld;have hHeld : w.cell? ⟨g,o,none⟩=some (.int .i64 a)∧w.cell? ⟨g,o+1,none⟩=some (.int .i64 b)∧w.cell? ⟨g,o+2,none⟩=some (.int .i64 d):=⟨c0,c1,c2⟩;refine wpAnyT_take2 (i:=3) (v:=.bool false) rfl rfl Zy Zy Zy Zy (fun _ _ _ h=>h) (Or.inl ⟨by rfl, ?_⟩) (by first | assumption | trivial) ?_
  ·(intro w hSw; (try dsimp only at hSw); go_simp) <;> (first | (with_reducible rfl) | assumption | (simp; done) | (simp [*]; done) | (simp; omega))
  simp only [qsa,qsb,qsc];refine Zr 4 ?_;refine Zr 5 ?_;refine Zr 6 ?_;refine Zr 7 ?_;refine Zr 8 ?_;refine Zr 9 ?_;refine Zr 10 ?_;refine wpAnyT_take2 (i:=11) (v:=.bool false) rfl rfl Zy Zy Zy Zy (fun _ _ _ h=>h) (Or.inl ⟨by rfl, ?_⟩) (by first | assumption | trivial) ?_
  ·(intro w hSw; (try dsimp only at hSw); go_simp) <;> (first | (with_reducible rfl) | assumption | (simp; done) | (simp [*]; done) | (simp; omega))
  simp only [qsa,qsb,qsc];refine Zr 12 ?_;refine Ze ?_;clear hHeld;go_wp2_with fail;go_ret;exact ⟨rfl,Below.drew Zz⟩
 ·rw [if_neg (fun h=>hbd h.2)];rw [← ha] at hr;(have ha3 : (a != 3)=false:=by simpa using ha);have hbd3 : (b != d)=true:=bne_iff_ne.2 hbd;have HA3:=Zh ha;clear ha hbd;obtain ⟨g,o,hA,_,c0⟩:=hr.geti (i:=0) Zs;obtain ⟨g',o',hA',_,c1⟩:=hr.geti (i:=1) Zs;obtain ⟨g2,o2,hA2,_,c2⟩:=hr.geti (i:=2) Zs;simp only at hA hA' hA2;rw [hA] at hA' hA2;injection hA' with hA';injection hA' with hg ho _;injection hA2 with hA2;injection hA2 with hg2 ho2 _;subst hg ho hg2 ho2 hA;simp only [List.getElem_cons_zero,List.getElem_cons_succ,Nat.add_zero] at c0 c1 c2;clear hr;go_enter Tryz.func113,Tryz.ntmps113;go_wp2_with fail;refine wp_region_T (fun W=>W.cell? ⟨g,o,none⟩=some (.int .i64 a)∧W.cell? ⟨g,o+1,none⟩=some (.int .i64 b)∧W.cell? ⟨g,o+2,none⟩=some (.int .i64 d)) (fun _=>false) Zy ⟨c0,c1,c2⟩ (fun hHeld=>?_);refine Zr 0 ?_;refine Zr 1 ?_;refine Zr 2 ?_;clear hHeld;have hHeld : w.cell? ⟨g,o,none⟩=some (.int .i64 a)∧w.cell? ⟨g,o+1,none⟩=some (.int .i64 b)∧w.cell? ⟨g,o+2,none⟩=some (.int .i64 d):=⟨c0,c1,c2⟩;refine wpAnyT_take2 (i:=3) (v:=.bool false) rfl rfl Zy Zy Zy Zy (fun _ _ _ h=>h) (Or.inl ⟨by rfl, ?_⟩) (by first | assumption | trivial) ?_
  ·(intro w hSw; (try dsimp only at hSw); go_simp) <;> (first | (with_reducible rfl) | assumption | (simp; done) | (simp [*]; done) | (simp; omega))
  simp only [qsa,qsb,qsc];refine Zr 4 ?_;refine Zr 5 ?_;refine Zr 6 ?_;refine Zr 7 ?_;refine Zr 8 ?_;refine Zr 9 ?_;refine Zr 10 ?_;refine wpAnyT_take2 (i:=11) (v:=.bool true) rfl rfl Zy Zy Zy Zy (fun _ _ _ h=>h) (Or.inl ⟨by rfl, ?_⟩) (by first | assumption | trivial) ?_
  ·(intro w hSw; (try dsimp only at hSw); go_simp) <;> (first | (with_reducible rfl) | assumption | (simp; done) | (simp [*]; done) | (simp; omega))
  simp only [qsa,qsb,qsc];refine Zr 12 ?_;refine Ze ?_;clear hHeld;go_wp2_with fail;go_ret;exact ⟨rfl,Below.drew Zz⟩
theorem r31_tab_two4 (a b : Int) (A : Option Addr) (c : Nat) (w : World) (hr : Rd (· < w.heap.size) 1 ienc w ⟨A,c,[a,b]⟩) : Calls Tryz.prog 113 #[.int .i64 4,.slice A 2 c] w fun r w'=>r = .returned (.int .i64 (joinU 4 [a,b]))∧Below w.heap.size w w':=by
 rw [join_two (by decide) (by decide)];obtain ⟨g,o,hA,_,c0⟩:=hr.geti (i:=0) Zs;obtain ⟨g',o',hA',_,c1⟩:=hr.geti (i:=1) Zs;simp only at hA hA';rw [hA] at hA';injection hA' with hA';injection hA' with hg ho _;subst hg ho hA;simp only [List.getElem_cons_zero,List.getElem_cons_succ,Nat.add_zero] at c0 c1;clear hr;obtain ⟨V,hV⟩ : ∃ V,pairU 4 a b=V:=⟨_,rfl⟩;rw [hV];have HV:=Zh hV;clear hV;go_enter Tryz.func113,Tryz.ntmps113;go_wp2_with fail
 all_goals
  refine bodyPost_ret (v:=.int .i64 V) ?_ rfl ⟨rfl,qbl⟩
  rw [← HV.out]
  clear HV c0 c1
  first
   | (simp [results,Tryz.results113,go_sem,pairU, *]; done)
   | (exfalso; simp_all; done)
   | (simp [results,Tryz.results113,go_sem]; unfold pairU; simp_all; done)
theorem r31_tab_two5 (a b : Int) (A : Option Addr) (c : Nat) (w : World) (hr : Rd (· < w.heap.size) 1 ienc w ⟨A,c,[a,b]⟩) : Calls Tryz.prog 113 #[.int .i64 5,.slice A 2 c] w fun r w'=>r = .returned (.int .i64 (joinU 5 [a,b]))∧Below w.heap.size w w':=by
 rw [join_two (by decide) (by decide)];obtain ⟨g,o,hA,_,c0⟩:=hr.geti (i:=0) Zs;obtain ⟨g',o',hA',_,c1⟩:=hr.geti (i:=1) Zs;simp only at hA hA';rw [hA] at hA';injection hA' with hA';injection hA' with hg ho _;subst hg ho hA;simp only [List.getElem_cons_zero,List.getElem_cons_succ,Nat.add_zero] at c0 c1;clear hr;obtain ⟨V,hV⟩ : ∃ V,pairU 5 a b=V:=⟨_,rfl⟩;rw [hV];have HV:=Zh hV;clear hV;go_enter Tryz.func113,Tryz.ntmps113;go_wp2_with fail
 all_goals
  refine bodyPost_ret (v:=.int .i64 V) ?_ rfl ⟨rfl,qbl⟩
  rw [← HV.out]
  clear HV c0 c1
  first
   | (simp [results,Tryz.results113,go_sem,pairU, *]; done)
   | (exfalso; simp_all; done)
   | (simp [results,Tryz.results113,go_sem]; unfold pairU; simp_all; done)
theorem r31_tab_two6 (a b : Int) (A : Option Addr) (c : Nat) (w : World) (hr : Rd (· < w.heap.size) 1 ienc w ⟨A,c,[a,b]⟩) : Calls Tryz.prog 113 #[.int .i64 6,.slice A 2 c] w fun r w'=>r = .returned (.int .i64 (joinU 6 [a,b]))∧Below w.heap.size w w':=by
 rw [join_two (by decide) (by decide)];obtain ⟨g,o,hA,_,c0⟩:=hr.geti (i:=0) Zs;obtain ⟨g',o',hA',_,c1⟩:=hr.geti (i:=1) Zs;simp only at hA hA';rw [hA] at hA';injection hA' with hA';injection hA' with hg ho _;subst hg ho hA;simp only [List.getElem_cons_zero,List.getElem_cons_succ,Nat.add_zero] at c0 c1;clear hr;obtain ⟨V,hV⟩ : ∃ V,pairU 6 a b=V:=⟨_,rfl⟩;rw [hV];have HV:=Zh hV;clear hV;go_enter Tryz.func113,Tryz.ntmps113;go_wp2_with fail
 all_goals
  refine bodyPost_ret (v:=.int .i64 V) ?_ rfl ⟨rfl,qbl⟩
  rw [← HV.out]
  clear HV c0 c1
  first
   | (simp [results,Tryz.results113,go_sem,pairU, *]; done)
   | (exfalso; simp_all; done)
   | (simp [results,Tryz.results113,go_sem]; unfold pairU; simp_all; done)
theorem r31_tab_two7 (a b : Int) (A : Option Addr) (c : Nat) (w : World) (hr : Rd (· < w.heap.size) 1 ienc w ⟨A,c,[a,b]⟩) : Calls Tryz.prog 113 #[.int .i64 7,.slice A 2 c] w fun r w'=>r = .returned (.int .i64 (joinU 7 [a,b]))∧Below w.heap.size w w':=by
 rw [join_two (by decide) (by decide)];obtain ⟨g,o,hA,_,c0⟩:=hr.geti (i:=0) Zs;obtain ⟨g',o',hA',_,c1⟩:=hr.geti (i:=1) Zs;simp only at hA hA';rw [hA] at hA';injection hA' with hA';injection hA' with hg ho _;subst hg ho hA;simp only [List.getElem_cons_zero,List.getElem_cons_succ,Nat.add_zero] at c0 c1;clear hr;obtain ⟨V,hV⟩ : ∃ V,pairU 7 a b=V:=⟨_,rfl⟩;rw [hV];have HV:=Zh hV;clear hV;go_enter Tryz.func113,Tryz.ntmps113;go_wp2_with fail
 all_goals
  refine bodyPost_ret (v:=.int .i64 V) ?_ rfl ⟨rfl,qbl⟩
  rw [← HV.out]
  clear HV c0 c1
  first
   | (simp [results,Tryz.results113,go_sem,pairU, *]; done)
   | (exfalso; simp_all; done)
   | (simp [results,Tryz.results113,go_sem]; unfold pairU; simp_all; done)
theorem r31_tab_two8 (a b : Int) (A : Option Addr) (c : Nat) (w : World) (hr : Rd (· < w.heap.size) 1 ienc w ⟨A,c,[a,b]⟩) : Calls Tryz.prog 113 #[.int .i64 8,.slice A 2 c] w fun r w'=>r = .returned (.int .i64 (joinU 8 [a,b]))∧Below w.heap.size w w':=by
 rw [join_two (by decide) (by decide)];obtain ⟨g,o,hA,_,c0⟩:=hr.geti (i:=0) Zs;obtain ⟨g',o',hA',_,c1⟩:=hr.geti (i:=1) Zs;simp only at hA hA';rw [hA] at hA';injection hA' with hA';injection hA' with hg ho _;subst hg ho hA;simp only [List.getElem_cons_zero,List.getElem_cons_succ,Nat.add_zero] at c0 c1;clear hr;obtain ⟨V,hV⟩ : ∃ V,pairU 8 a b=V:=⟨_,rfl⟩;rw [hV];have HV:=Zh hV;clear hV;go_enter Tryz.func113,Tryz.ntmps113;go_wp2_with fail
 all_goals
  refine bodyPost_ret (v:=.int .i64 V) ?_ rfl ⟨rfl,qbl⟩
  rw [← HV.out]
  clear HV c0 c1
  first
   | (simp [results,Tryz.results113,go_sem,pairU, *]; done)
   | (exfalso; simp_all; done)
   | (simp [results,Tryz.results113,go_sem]; unfold pairU; simp_all; done)
theorem r31_tab_two9 (a b : Int) (A : Option Addr) (c : Nat) (w : World) (hr : Rd (· < w.heap.size) 1 ienc w ⟨A,c,[a,b]⟩) : Calls Tryz.prog 113 #[.int .i64 9,.slice A 2 c] w fun r w'=>r = .returned (.int .i64 (joinU 9 [a,b]))∧Below w.heap.size w w':=by
 rw [join_two (by decide) (by decide)];obtain ⟨g,o,hA,_,c0⟩:=hr.geti (i:=0) Zs;obtain ⟨g',o',hA',_,c1⟩:=hr.geti (i:=1) Zs;simp only at hA hA';rw [hA] at hA';injection hA' with hA';injection hA' with hg ho _;subst hg ho hA;simp only [List.getElem_cons_zero,List.getElem_cons_succ,Nat.add_zero] at c0 c1;clear hr;obtain ⟨V,hV⟩ : ∃ V,pairU 9 a b=V:=⟨_,rfl⟩;rw [hV];have HV:=Zh hV;clear hV;go_enter Tryz.func113,Tryz.ntmps113;go_wp2_with fail
 all_goals
  refine bodyPost_ret (v:=.int .i64 V) ?_ rfl ⟨rfl,qbl⟩
  rw [← HV.out]
  clear HV c0 c1
  first
   | (simp [results,Tryz.results113,go_sem,pairU, *]; done)
   | (exfalso; simp_all; done)
   | (simp [results,Tryz.results113,go_sem]; unfold pairU; simp_all; done)
theorem r31_tab_two10 (a b : Int) (A : Option Addr) (c : Nat) (w : World) (hr : Rd (· < w.heap.size) 1 ienc w ⟨A,c,[a,b]⟩) : Calls Tryz.prog 113 #[.int .i64 10,.slice A 2 c] w fun r w'=>r = .returned (.int .i64 (joinU 10 [a,b]))∧Below w.heap.size w w':=by
 rw [join_two (by decide) (by decide)];obtain ⟨g,o,hA,_,c0⟩:=hr.geti (i:=0) Zs;obtain ⟨g',o',hA',_,c1⟩:=hr.geti (i:=1) Zs;simp only at hA hA';rw [hA] at hA';injection hA' with hA';injection hA' with hg ho _;subst hg ho hA;simp only [List.getElem_cons_zero,List.getElem_cons_succ,Nat.add_zero] at c0 c1;clear hr;obtain ⟨V,hV⟩ : ∃ V,pairU 10 a b=V:=⟨_,rfl⟩;rw [hV];have HV:=Zh hV;clear hV;go_enter Tryz.func113,Tryz.ntmps113;go_wp2_with fail
 all_goals
  refine bodyPost_ret (v:=.int .i64 V) ?_ rfl ⟨rfl,qbl⟩
  rw [← HV.out]
  clear HV c0 c1
  first
   | (simp [results,Tryz.results113,go_sem,pairU, *]; done)
   | (exfalso; simp_all; done)
   | (simp [results,Tryz.results113,go_sem]; unfold pairU; simp_all; done)
theorem r31_tab_two11 (a b : Int) (A : Option Addr) (c : Nat) (w : World) (hr : Rd (· < w.heap.size) 1 ienc w ⟨A,c,[a,b]⟩) : Calls Tryz.prog 113 #[.int .i64 11,.slice A 2 c] w fun r w'=>r = .returned (.int .i64 (joinU 11 [a,b]))∧Below w.heap.size w w':=by
 rw [join_two (by decide) (by decide)];obtain ⟨g,o,hA,_,c0⟩:=hr.geti (i:=0) Zs;obtain ⟨g',o',hA',_,c1⟩:=hr.geti (i:=1) Zs;simp only at hA hA';rw [hA] at hA';injection hA' with hA';injection hA' with hg ho _;subst hg ho hA;simp only [List.getElem_cons_zero,List.getElem_cons_succ,Nat.add_zero] at c0 c1;clear hr;obtain ⟨V,hV⟩ : ∃ V,pairU 11 a b=V:=⟨_,rfl⟩;rw [hV];have HV:=Zh hV;clear hV;go_enter Tryz.func113,Tryz.ntmps113;go_wp2_with fail
 all_goals
  refine bodyPost_ret (v:=.int .i64 V) ?_ rfl ⟨rfl,qbl⟩
  rw [← HV.out]
  clear HV c0 c1
  first
   | (simp [results,Tryz.results113,go_sem,pairU, *]; done)
   | (exfalso; simp_all; done)
   | (simp [results,Tryz.results113,go_sem]; unfold pairU; simp_all; done)
theorem r31_table (op : Int) (h4 : 4≤op) (h16 : op<16) (s : Sl Int) (w : World) (hr : Rd (· < w.heap.size) 1 ienc w s) (hl : (s.l.length : Int)=opsN op) : Calls Tryz.prog 113 #[.int .i64 op,.slice s.A s.l.length s.c] w fun r w'=>r = .returned (.int .i64 (joinU op s.l))∧Below w.heap.size w w':=by
 by_cases h12 : op=12
 ·subst h12; exact r31_tab_log12 s w hr
 by_cases h13 : op=13
 ·subst h13; exact r31_tab_log13 s w hr
 by_cases h14 : op=14
 ·subst h14; exact r31_tab_log14 s w hr
 obtain ⟨A,c,l⟩:=s;by_cases h15 : op=15
 ·subst h15;simp only [show opsN 15=3 from rfl] at hl
  match l,hl with
  | [a,b,d],_ =>
   by_cases ha : a=3
   ·subst ha; exact r31_tab_if2 b d A c w hr
   ·exact r31_tab_if1 a b d A c w hr ha
  | [],h=>simp at h
  | [_],h=>simp at h
  | [_,_],h=>simp at h
  | _ :: _ :: _ :: _ :: _,h=>simp at h; omega
 ·rw [opsN_bin h4 h16 h12 h15] at hl
  match l,hl with
  | [a,b],_ =>
   (have h : op=4∨op=5∨op=6∨op=7∨op=8∨op=9∨op=10∨op=11:=by omega);rcases h with rfl | rfl | rfl | rfl | rfl | rfl | rfl | rfl
   ·exact r31_tab_two4 a b A c w hr
   ·exact r31_tab_two5 a b A c w hr
   ·exact r31_tab_two6 a b A c w hr
   ·exact r31_tab_two7 a b A c w hr
   ·exact r31_tab_two8 a b A c w hr
   ·exact r31_tab_two9 a b A c w hr
   ·exact r31_tab_two10 a b A c w hr
   ·exact r31_tab_two11 a b A c w hr
  | [],h=>simp at h
  | [_],h=>simp at h
  | _ :: _ :: _ :: _,h=>simp at h; omega
end Go.Proofs.YtcgocdhhneckhaaGreat
