/- The plain law of EvalSound, for what known returns. -/
import Derived.Test.YtcgocdhhneckhaaGreatDoorEqmxad
import Derived.Test.YtcgocdhhneckhaaGreatDoorEqmxae
set_option linter.unusedSimpArgs false
set_option linter.unusedVariables false
set_option maxRecDepth 100000
set_option maxHeartbeats 6400000
namespace Go.Proofs.YtcgocdhhneckhaaGreatDoor
open Go.RowKit
theorem same_of {a s : ByteArray} {l : List UInt8} (h : (s.toList == l)=true) (ha : a.toList=l) : sameB a s=true:=by
 unfold sameB;rw [beq_iff_eq] at h ⊢;rw [ha,h]
theorem tri_in {s : ByteArray} (h : (triU s).isSome=true) : ∃ nm,nm ∈ knownN true∧sameB nm s=true:=by
 unfold triU at h;by_cases h0 : (s.toList == [100,105,114,101,99,116])=true
 ·exact ⟨(⟨#[100,105,114,101,99,116]⟩ : ByteArray),by simp [knownN],same_of h0 Zy⟩
 rw [if_neg h0] at h;by_cases h1 : (s.toList == [114,105,100,101])=true
 ·exact ⟨(⟨#[114,105,100,101]⟩ : ByteArray),by simp [knownN],same_of h1 Zy⟩
 rw [if_neg h1] at h;by_cases h2 : (s.toList == [100,101,108,97,121])=true
 ·exact ⟨(⟨#[100,101,108,97,121]⟩ : ByteArray),by simp [knownN],same_of h2 Zy⟩
 rw [if_neg h2] at h;by_cases h3 : (s.toList == [110,111,116,105,99,101])=true
 ·exact ⟨(⟨#[110,111,116,105,99,101]⟩ : ByteArray),by simp [knownN],same_of h3 Zy⟩
 rw [if_neg h3] at h;by_cases h4 : (s.toList == [115,101,97,116,115])=true
 ·exact ⟨(⟨#[115,101,97,116,115]⟩ : ByteArray),by simp [knownN],same_of h4 Zy⟩
 rw [if_neg h4] at h;by_cases h5 : (s.toList == [99,104,97,105,114,115])=true
 ·exact ⟨(⟨#[99,104,97,105,114,115]⟩ : ByteArray),by simp [knownN],same_of h5 Zy⟩
 rw [if_neg h5] at h;by_cases h6 : (s.toList == [98,97,103,115])=true
 ·exact ⟨(⟨#[98,97,103,115]⟩ : ByteArray),by simp [knownN],same_of h6 Zy⟩
 rw [if_neg h6] at h;by_cases h7 : (s.toList == [114,105,100,101,114,115])=true
 ·exact ⟨(⟨#[114,105,100,101,114,115]⟩ : ByteArray),by simp [knownN],same_of h7 Zy⟩
 rw [if_neg h7] at h;cases h
theorem mem_in {s : ByteArray} (h : (memU s).isSome=true) : ∃ nm,nm ∈ knownN false∧sameB nm s=true:=by
 unfold memU at h;by_cases h0 : (s.toList == [102,97,118,111,117,114])=true
 ·exact ⟨(⟨#[102,97,118,111,117,114]⟩ : ByteArray),by simp [knownN],same_of h0 Zy⟩
 rw [if_neg h0] at h;by_cases h1 : (s.toList == [98,97,108,97,110,99,101])=true
 ·exact ⟨(⟨#[98,97,108,97,110,99,101]⟩ : ByteArray),by simp [knownN],same_of h1 Zy⟩
 rw [if_neg h1] at h;by_cases h2 : (s.toList == [116,114,105,112,115])=true
 ·exact ⟨(⟨#[116,114,105,112,115]⟩ : ByteArray),by simp [knownN],same_of h2 Zy⟩
 rw [if_neg h2] at h;by_cases h3 : (s.toList == [110,111,115,104,111,119,115])=true
 ·exact ⟨(⟨#[110,111,115,104,111,119,115]⟩ : ByteArray),by simp [knownN],same_of h3 Zy⟩
 rw [if_neg h3] at h;cases h
theorem tri_no (s : ByteArray) : triU s≠some 3:=by
 unfold triU;repeat (first | (split; · decide) | decide)
theorem mem_no (s : ByteArray) : memU s≠some 3:=by
 unfold memU;repeat (first | (split; · decide) | decide)
theorem seqU_not1 : ∀ l : List (Int × Int),(∀ x,x ∈ l→x.2≠1)→(seqU l).2≠1
 | [],_=>by simp [seqU]
 | (u,e) :: r,h=>by
  unfold seqU;split
  ·exact seqU_not1 r fun x hx=>h x (List.mem_cons_of_mem _ hx)
  ·exact h _ (List.mem_cons_self ..)
theorem unU_not1 (L : List LT) (U : List Int) : ∀ k e,(unU L U k e).2≠1
 | 0,_=>by unfold unU; decide
 | k+1,⟨o,_,u,s,_,_,l⟩=>by
  have hs:=seqU_not1 (l.map (unU L U k)) fun x hx=>by
   obtain ⟨y,_,rfl⟩:=List.mem_map.1 hx;exact unU_not1 L U k y
  unfold unU;split
  ·simp
  split
  ·unfold knU; split <;> simp
  split
  ·unfold knU; split <;> simp
  split
  ·split <;> simp
  split
  ·exact hs
  split <;> simp
theorem known_snd {T : List FT} {b : Bool} (hn : T.map FT.nm=knownN b) (hv : ∀ x,x ∈ T→-1000000<x.v∧x.v<1000000) {s nm : ByteArray} (h1 : nm ∈ knownN b) (h2 : sameB nm s=true) : Snd (factF s T):=by
 rw [← hn] at h1;obtain ⟨x,hx,rfl⟩:=List.mem_map.1 h1;exact factF_snd hx h2 (fun y hy=>by have:=hv y hy; omega)
theorem known_facts {T : List FT} {b : Bool} (hn : T.map FT.nm=knownN b) (hv : ∀ x,x ∈ T→-1000000<x.v∧x.v<1000000) : factsB T=true:=by
 (have hl : T.length=(knownN b).length:=by rw [← hn,List.length_map]);unfold factsB;rw [Bool.and_eq_true];refine ⟨?_,List.all_eq_true.2 fun x hx=>?_⟩
 ·rw [hl]; cases b <;> rfl
 ·have hm : x.nm ∈ knownN b:=by rw [← hn]; exact List.mem_map_of_mem hx
  have hnm : nameB x.nm=true:=by
   generalize x.nm=z at hm;cases b
   ·simp only [knownN,Bool.false_eq_true,if_false,List.mem_cons,List.not_mem_nil,or_false] at hm;rcases hm with rfl | rfl | rfl | rfl <;> kernel_rfl
   ·simp only [knownN,if_true,List.mem_cons,List.not_mem_nil,or_false] at hm;rcases hm with rfl | rfl | rfl | rfl | rfl | rfl | rfl | rfl <;> kernel_rfl
  have:=hv x hx;rw [hnm];simp only [Bool.true_and,Bool.and_eq_true,decide_eq_true_eq];omega
theorem sound_of {L : List LT} {e : PT} {T M : List FT} (hT : T.map FT.nm=knownN true) (hM : M.map FT.nm=knownN false) (vT : ∀ x,x ∈ T→-1000000<x.v∧x.v<1000000) (vM : ∀ x,x ∈ M→-1000000<x.v∧x.v<1000000) : ((ofU L e).2=1→(evalF L e T M).e=1)∧((ofU L e).2=0→((evalF L e T M).e=0∨(evalF L e T M).e=6∨(evalF L e T M).e=15)∧((ofU L e).1=3→Bol (evalF L e T M))):=by
 by_cases h : rexp e=true∧(L.length : Int)≤20∧L.all (fun x=>rexp x.b)=true
 ·have hf : rexp e=true∧(L.length : Int)≤20∧L.all (fun x=>rexp x.b)=true∧factsB T=true∧factsB M=true:=⟨h.1,h.2.1,h.2.2,known_facts hT vT,known_facts hM vM⟩;rw [ofU_ok h,evalF_ok hf];have hok : ∀ x,x ∈ L→okE 12 x.b=true:=fun x hx=>List.all_eq_true.1 h.2.2 x hx;have ht:=List.take_length (l:=L);refine ⟨fun h1=>?_,fun h0=>⟨?_,fun h3=>?_⟩⟩
  ·exact absurd h1 (unU_not1 _ _ _ _)
  ·exact (evN_sound hok (fun s hs=>by obtain ⟨nm,h1,h2⟩:=tri_in hs; exact known_snd hT vT h1 h2) (fun s hs=>by obtain ⟨nm,h1,h2⟩:=mem_in hs; exact known_snd hM vM h1 h2) L.length Zl 12 e h.1 (by rw [ht]; exact h0)).err
  ·have h0' : (unU L (scU L) 12 e).2=0:=h0;rw [if_pos h0'] at h3;exact evN_bool hok tri_no mem_no L.length Zl 12 e h.1 (by rw [ht]; exact h0) (by rw [ht]; exact h3)
 ·rw [ofU_arg h,evalF_arg (fun h'=>h ⟨h'.1,h'.2.1,h'.2.2.1⟩)];exact ⟨fun _=>rfl,fun h0=>absurd h0 (by decide)⟩
theorem frac_store {w w5 : World} {f : Frc} {p q : Int} (hg : RG (· < w5.heap.size) w5 f p q) (hr : Blk w5 w.heap.size 36 Zf) (hb : Below w.heap.size w w5) (v0 v1 v2 v3 : Value) : FB ((((w5.setCell ⟨w.heap.size,0,none⟩ v0).setCell ⟨w.heap.size,1,none⟩ v1).setCell ⟨w.heap.size,2,none⟩ v2).setCell ⟨w.heap.size,3,none⟩ v3) f p q∧Below w.heap.size w ((((w5.setCell ⟨w.heap.size,0,none⟩ v0).setCell ⟨w.heap.size,1,none⟩ v1).setCell ⟨w.heap.size,2,none⟩ v2).setCell ⟨w.heap.size,3,none⟩ v3):=by
 have h : RG (· < ((((w5.setCell ⟨w.heap.size,0,none⟩ v0).setCell ⟨w.heap.size,1,none⟩ v1).setCell ⟨w.heap.size,2,none⟩ v2).setCell ⟨w.heap.size,3,none⟩ v3).heap.size) ((((w5.setCell ⟨w.heap.size,0,none⟩ v0).setCell ⟨w.heap.size,1,none⟩ v1).setCell ⟨w.heap.size,2,none⟩ v2).setCell ⟨w.heap.size,3,none⟩ v3) f p q:=((hg.off hr).st4x (fun b hb=>hb.2)).mono (fun b hb=>by simpa using hb.1);exact ⟨⟨⟨h.P,h.dp.1,h.dp.2,h.ok.fp⟩,⟨h.Q,h.dq.1,h.dq.2,h.ok.fq⟩⟩,below_st4 hb Zl⟩
theorem law_truth (b : Bool) (w : World) : Calls Tryz.prog 19 #[.bool b] w fun e w'=>∃ f : Frc,e = .returned f.v∧FB w' f (if b then 1 else 0) 1∧Below w.heap.size w w':=by
 have HB0 : Hid (Below w.heap.size w (w.alloc (.cells Zf 36))):=Zh qbl;have HR0:=Zh (Blk.new w 36 Zf);go_enter Tryz.func19,Tryz.ntmps19;rcases b
 ·go_wp2_with fail;refine (r05_whole 0 _ (by decide) (by decide)).mono ?_;rintro r w1 hp;obtain ⟨f,rfl,hg,hb1⟩:=hp.yes rfl (ok_whole (by decide) (by decide));have HR1:=Zh (HR0.out.later hb1);have HB1:=Zt HB0 hb1;have HG1:=Zh (hg.mono (fun b hb=>hb.2) : RG (· < w1.heap.size) w1 f 0 1);clear hp hg hb1 HR0 HB0;simp only [Frc.v];(iterate 17 (first | go_values | go_skip | go_guarded | go_step | go_upon | go_back));have hal : Below w1.heap.size w1 (w1.alloc (.cells (Zc f) 36)):=Zz.alloc Zl _;have HX2:=Zh (Blk.new w1 36 (Zc f));have HR2:=Zh (HR1.out.later hal);have HB2:=Zt HB1 hal;have HG2:=Zh (HG1.out.lat hal);clear hal HR1 HB1 HG1;generalize w1.alloc (.cells _ 36)=w2 at *;generalize w1.heap.size=g2 at *;have HP:=Zh (fun v0 v1 v2 v3=>frac_store HG2.out HR2.out HB2.out v0 v1 v2 v3);obtain ⟨x0,x1,x2,x3,xf,xz⟩:=HX2.out.b4;obtain ⟨r0,r1,r2,r3,rf,rz⟩:=HR2.out.b4;go_wp2_with fail;refine bodyPost_ret (v:=.agg #[.int .i64 f.p.s,.slice f.p.l.A f.p.l.l.length f.p.l.c,.int .i64 f.q.s,.slice f.q.l.A f.q.l.l.length f.q.l.c]) ?_ rfl ⟨f,rfl,HP.out _ _ _ _⟩;simp [results,Tryz.results19,go_sem,r0,r1,r2,r3,rz]
 ·go_wp2_with fail;refine (r05_whole 1 _ (by decide) (by decide)).mono ?_;rintro r w1 hp;obtain ⟨f,rfl,hg,hb1⟩:=hp.yes rfl (ok_whole (by decide) (by decide));have HR1:=Zh (HR0.out.later hb1);have HB1:=Zt HB0 hb1;have HG1:=Zh (hg.mono (fun b hb=>hb.2) : RG (· < w1.heap.size) w1 f 1 1);clear hp hg hb1 HR0 HB0;simp only [Frc.v];(iterate 17 (first | go_values | go_skip | go_guarded | go_step | go_upon | go_back));have hal : Below w1.heap.size w1 (w1.alloc (.cells (Zc f) 36)):=Zz.alloc Zl _;have HX2:=Zh (Blk.new w1 36 (Zc f));have HR2:=Zh (HR1.out.later hal);have HB2:=Zt HB1 hal;have HG2:=Zh (HG1.out.lat hal);clear hal HR1 HB1 HG1;generalize w1.alloc (.cells _ 36)=w2 at *;generalize w1.heap.size=g2 at *;have HP:=Zh (fun v0 v1 v2 v3=>frac_store HG2.out HR2.out HB2.out v0 v1 v2 v3);obtain ⟨x0,x1,x2,x3,xf,xz⟩:=HX2.out.b4;obtain ⟨r0,r1,r2,r3,rf,rz⟩:=HR2.out.b4;go_wp2_with fail;refine bodyPost_ret (v:=.agg #[.int .i64 f.p.s,.slice f.p.l.A f.p.l.l.length f.p.l.c,.int .i64 f.q.s,.slice f.q.l.A f.q.l.l.length f.q.l.c]) ?_ rfl ⟨f,rfl,HP.out _ _ _ _⟩;simp [results,Tryz.results19,go_sem,r0,r1,r2,r3,rz]
end Go.Proofs.YtcgocdhhneckhaaGreatDoor
