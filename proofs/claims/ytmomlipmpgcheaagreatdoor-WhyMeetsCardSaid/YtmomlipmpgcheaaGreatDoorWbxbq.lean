/- Walk of small. -/
import Derived.Test.YtmomlipmpgcheaaGreatDoorWbxbp
import Derived.Deep.MidRow
set_option linter.unusedSimpArgs false
set_option linter.unusedVariables false
set_option maxRecDepth 100000
set_option maxHeartbeats 6400000
namespace Go.Proofs.YtmomlipmpgcheaaGreatDoor
open Go.RowKit
def bylW (L : Sl LT) : Byl:=⟨⟨#[]⟩,L,⟨0,0,0,⟨#[]⟩,none,0,[]⟩,⟨0,0,0,⟨#[]⟩,none,0,[]⟩,⟨0,0,0,⟨#[]⟩,none,0,[]⟩,⟨0,0,0,⟨#[]⟩,none,0,[]⟩,0,0,0⟩
theorem bylW_at {F : Nat→Prop} {w : World} {L : Sl LT} (h : LetsAt F w L) : Byl.At F w (bylW L) :=
  ⟨(by show (ByteArray.size ⟨#[]⟩)≤_; decide),h,pt_leafW _ _ _ _ (by decide),pt_leafW _ _ _ _ (by decide),pt_leafW _ _ _ _ (by decide),pt_leafW _ _ _ _ (by decide)⟩
theorem letsW {F : Nat→Prop} {w : World} : LetsAt F w ⟨none,0,[]⟩:=⟨Rd.nil _ _ _ _,fun x hx=>by cases hx⟩
theorem yl_row {ops : Array Oper} {S : World→Prop} {op : Oper} {a : Act} (hw : Region.wanted op (yielded ops a.tmps)=true) (ty : TypeId) (x : Operand) (ho : op.op = .load ty x) (g : Nat) (hx : a.eval x = .pointer (some ⟨g,0,none⟩)) (cs : Array Value) (t : TypeId) (d : TypeDesc) (hS : ∀ w,S w→Blk w g t cs) (hu : Tryz.prog.underlying ty=some d) (hd : d.isRow=true) (hi : (Tryz.prog.info? ty).map (·.size)=some cs.size) : YieldsIf Tryz.prog ops S op (.agg cs) a:=by
  have h:=yieldsIf_load_mid (P:=Tryz.prog) hw ty x ho g 0 hx cs.toList d (fun w h j v hv=>by rw [Nat.zero_add,(hS w h).cell]; simpa using hv) hu hd (by rw [Array.length_toList]; exact hi)
  simpa using h
theorem two_two (n i : Int) (A1 A2 : Option Addr) (c1 c2 : Nat) : ∀ x,x ∈ twoT n i A1 A2 c1 c2→x.o.l.length≤2:=fun x hx=>by
  simp only [twoT,List.mem_cons,List.not_mem_nil,or_false] at hx
  rcases hx with rfl | rfl
  · show 1≤2
    omega
  · show 1≤2
    omega
theorem small_46 (w : World) (ht : TabW w) : Calls Tryz.prog 8 #[] w fun r w'=>r = .returned (.bool true)∧Below w.heap.size w w':=by
  have HT:=Lib.hid ht
  clear ht
  go_enter Tryz.func8,Tryz.ntmps8
  go_wp2_with (refine wpList_store_row rfl 29 (.tmp 1) (.tmp 15) rfl w.heap.size #[.string ⟨#[]⟩,.slice none 0 0,.int .i64 0,.int .i64 0,.int .i64 0,.string ⟨#[]⟩,.slice none 0 0,.int .i64 0,.int .i64 0,.int .i64 0,.string ⟨#[]⟩,.slice none 0 0,.int .i64 0,.int .i64 0,.int .i64 0,.string ⟨#[]⟩,.slice none 0 0,.int .i64 0,.int .i64 0,.int .i64 0,.string ⟨#[]⟩,.slice none 0 0,.int .i64 0,.int .i64 0,.int .i64 0] rfl rfl 29 _ (Blk.new w 29 #[.string ⟨#[]⟩,.slice none 0 0,.int .i64 0,.int .i64 0,.int .i64 0,.string ⟨#[]⟩,.slice none 0 0,.int .i64 0,.int .i64 0,.int .i64 0,.string ⟨#[]⟩,.slice none 0 0,.int .i64 0,.int .i64 0,.int .i64 0,.string ⟨#[]⟩,.slice none 0 0,.int .i64 0,.int .i64 0,.int .i64 0,.string ⟨#[]⟩,.slice none 0 0,.int .i64 0,.int .i64 0,.int .i64 0]) (by kernel_rfl) rfl (by kernel_rfl) ?_; apply Hid.out)
  have hr:=setRow_heap (w.alloc (.cells #[.string ⟨#[]⟩,.slice none 0 0,.int .i64 0,.int .i64 0,.int .i64 0,.string ⟨#[]⟩,.slice none 0 0,.int .i64 0,.int .i64 0,.int .i64 0,.string ⟨#[]⟩,.slice none 0 0,.int .i64 0,.int .i64 0,.int .i64 0,.string ⟨#[]⟩,.slice none 0 0,.int .i64 0,.int .i64 0,.int .i64 0,.string ⟨#[]⟩,.slice none 0 0,.int .i64 0,.int .i64 0,.int .i64 0] 29)) w.heap.size #[.string ⟨#[]⟩,.slice none 0 0,.int .i64 0,.int .i64 0,.int .i64 0,.string ⟨#[]⟩,.slice none 0 0,.int .i64 0,.int .i64 0,.int .i64 0,.string ⟨#[]⟩,.slice none 0 0,.int .i64 0,.int .i64 0,.int .i64 0,.string ⟨#[]⟩,.slice none 0 0,.int .i64 0,.int .i64 0,.int .i64 0,.string ⟨#[]⟩,.slice none 0 0,.int .i64 0,.int .i64 0,.int .i64 0] #[.string ⟨#[]⟩,.slice none 0 0,.int .i64 0,.int .i64 0,.int .i64 0,.string ⟨#[]⟩,.slice none 0 0,.int .i64 0,.int .i64 0,.int .i64 0,.string ⟨#[]⟩,.slice none 0 0,.int .i64 0,.int .i64 0,.int .i64 0,.string ⟨#[]⟩,.slice none 0 0,.int .i64 0,.int .i64 0,.int .i64 0,.string ⟨#[]⟩,.slice none 0 0,.int .i64 0,.int .i64 0,.int .i64 0] 29 (0,0) (Blk.new w 29 #[.string ⟨#[]⟩,.slice none 0 0,.int .i64 0,.int .i64 0,.int .i64 0,.string ⟨#[]⟩,.slice none 0 0,.int .i64 0,.int .i64 0,.int .i64 0,.string ⟨#[]⟩,.slice none 0 0,.int .i64 0,.int .i64 0,.int .i64 0,.string ⟨#[]⟩,.slice none 0 0,.int .i64 0,.int .i64 0,.int .i64 0,.string ⟨#[]⟩,.slice none 0 0,.int .i64 0,.int .i64 0,.int .i64 0])
  have hx : Blk ((w.alloc (.cells #[.string ⟨#[]⟩,.slice none 0 0,.int .i64 0,.int .i64 0,.int .i64 0,.string ⟨#[]⟩,.slice none 0 0,.int .i64 0,.int .i64 0,.int .i64 0,.string ⟨#[]⟩,.slice none 0 0,.int .i64 0,.int .i64 0,.int .i64 0,.string ⟨#[]⟩,.slice none 0 0,.int .i64 0,.int .i64 0,.int .i64 0,.string ⟨#[]⟩,.slice none 0 0,.int .i64 0,.int .i64 0,.int .i64 0] 29)).setRow w.heap.size #[.string ⟨#[]⟩,.slice none 0 0,.int .i64 0,.int .i64 0,.int .i64 0,.string ⟨#[]⟩,.slice none 0 0,.int .i64 0,.int .i64 0,.int .i64 0,.string ⟨#[]⟩,.slice none 0 0,.int .i64 0,.int .i64 0,.int .i64 0,.string ⟨#[]⟩,.slice none 0 0,.int .i64 0,.int .i64 0,.int .i64 0,.string ⟨#[]⟩,.slice none 0 0,.int .i64 0,.int .i64 0,.int .i64 0]) w.heap.size 29 #[.string ⟨#[]⟩,.slice none 0 0,.int .i64 0,.int .i64 0,.int .i64 0,.string ⟨#[]⟩,.slice none 0 0,.int .i64 0,.int .i64 0,.int .i64 0,.string ⟨#[]⟩,.slice none 0 0,.int .i64 0,.int .i64 0,.int .i64 0,.string ⟨#[]⟩,.slice none 0 0,.int .i64 0,.int .i64 0,.int .i64 0,.string ⟨#[]⟩,.slice none 0 0,.int .i64 0,.int .i64 0,.int .i64 0]:=hr
  have hb : Below w.heap.size w ((w.alloc (.cells #[.string ⟨#[]⟩,.slice none 0 0,.int .i64 0,.int .i64 0,.int .i64 0,.string ⟨#[]⟩,.slice none 0 0,.int .i64 0,.int .i64 0,.int .i64 0,.string ⟨#[]⟩,.slice none 0 0,.int .i64 0,.int .i64 0,.int .i64 0,.string ⟨#[]⟩,.slice none 0 0,.int .i64 0,.int .i64 0,.int .i64 0,.string ⟨#[]⟩,.slice none 0 0,.int .i64 0,.int .i64 0,.int .i64 0] 29)).setRow w.heap.size #[.string ⟨#[]⟩,.slice none 0 0,.int .i64 0,.int .i64 0,.int .i64 0,.string ⟨#[]⟩,.slice none 0 0,.int .i64 0,.int .i64 0,.int .i64 0,.string ⟨#[]⟩,.slice none 0 0,.int .i64 0,.int .i64 0,.int .i64 0,.string ⟨#[]⟩,.slice none 0 0,.int .i64 0,.int .i64 0,.int .i64 0,.string ⟨#[]⟩,.slice none 0 0,.int .i64 0,.int .i64 0,.int .i64 0]):=((Below.refl _ _).alloc (Nat.le_refl _) _).trans (row_belowW (Nat.le_refl _))
  have hbv : (bylW ⟨none,0,[]⟩).v = .agg #[.string ⟨#[]⟩,.slice none 0 0,.int .i64 0,.int .i64 0,.int .i64 0,.string ⟨#[]⟩,.slice none 0 0,.int .i64 0,.int .i64 0,.int .i64 0,.string ⟨#[]⟩,.slice none 0 0,.int .i64 0,.int .i64 0,.int .i64 0,.string ⟨#[]⟩,.slice none 0 0,.int .i64 0,.int .i64 0,.int .i64 0,.string ⟨#[]⟩,.slice none 0 0,.int .i64 0,.int .i64 0,.int .i64 0]:=rfl
  have hs : (#[.string ⟨#[]⟩,.slice none 0 0,.int .i64 0,.int .i64 0,.int .i64 0,.string ⟨#[]⟩,.slice none 0 0,.int .i64 0,.int .i64 0,.int .i64 0,.string ⟨#[]⟩,.slice none 0 0,.int .i64 0,.int .i64 0,.int .i64 0,.string ⟨#[]⟩,.slice none 0 0,.int .i64 0,.int .i64 0,.int .i64 0,.string ⟨#[]⟩,.slice none 0 0,.int .i64 0,.int .i64 0,.int .i64 0] : Array Value).size=25:=rfl
  obtain ⟨cs,hcs⟩ : ∃ z : Array Value,#[.string ⟨#[]⟩,.slice none 0 0,.int .i64 0,.int .i64 0,.int .i64 0,.string ⟨#[]⟩,.slice none 0 0,.int .i64 0,.int .i64 0,.int .i64 0,.string ⟨#[]⟩,.slice none 0 0,.int .i64 0,.int .i64 0,.int .i64 0,.string ⟨#[]⟩,.slice none 0 0,.int .i64 0,.int .i64 0,.int .i64 0,.string ⟨#[]⟩,.slice none 0 0,.int .i64 0,.int .i64 0,.int .i64 0]=z:=⟨_,rfl⟩
  rw [hcs] at hx hb hbv hs ⊢
  clear hr hcs
  have HX:=Lib.hid hx
  have HB:=Lib.hid hb
  have HBV:=Lib.hid hbv
  have HS:=Lib.hid hs
  clear hx hb hbv hs
  generalize ((w.alloc (.cells cs 29)).setRow w.heap.size cs)=w1 at *
  refine Lib.hid ?_
  go_wp2_with fail
  refine wp_region_T (fun W=>Blk W w.heap.size 29 cs) (fun _=>false) (by kernel_rfl) HX.out.drew (fun hHeld=>?_)
  refine wpAnyT_take2 (i:=0) (v:=.agg cs) rfl rfl (by kernel_rfl) (by kernel_rfl) (by kernel_rfl) (by kernel_rfl) (fun _ _ _ h=>h) (yl_row (by rfl) 29 (.tmp 1) rfl w.heap.size rfl cs 29 _ (fun W h=>h) Tryz.underlying29 rfl (by rw [HS.out]; kernel_rfl)) hHeld ?_
  simp only [qsa,qsb,qsc]
  clear hHeld
  refine wpAnyT_next (i:=1) (by kernel_rfl) rfl ?_
  go_wp2_with fail
  refine (law_rule _).mono ?_
  unfold RulP
  rintro r va ⟨A1,A2,A3,c1,c2,c3,rfl,hat,hb1⟩
  have HQ : Hid (Below w1.heap.size w1 va):=Lib.hid (((Below.refl w1.heap.size w1).drew).trans hb1)
  have HXa:=Lib.hid (HX.out.later HQ.out)
  have HAT:=Lib.hid hat
  clear hat hb1
  go_wp2_with fail
  refine And.intro (by first | exact fun _=>HXa.out | exact HXa.out) ?_
  refine wpAnyT_next (i:=2) (by kernel_rfl) rfl ?_
  go_wp2_with fail
  refine (law_two 1 5 _).mono ?_
  unfold TwoP
  rintro r vb ⟨B,B1,B2,d,d1,d2,rfl,hth,hb2⟩
  have HQ2:=Lib.hid (HQ.out.trans (hb2.mono HQ.out.size))
  have HXb:=Lib.hid (HX.out.later HQ2.out)
  have HAT2:=Lib.hid (HAT.out.later hb2)
  have HTH:=Lib.hid hth
  clear hth hb2
  go_wp2_with fail
  refine And.intro (by first | exact fun _=>HXb.out | exact HXb.out) ?_
  refine wpAnyT_next (i:=3) (by kernel_rfl) rfl ?_
  go_wp2_with fail
  have hc:=why_Holds (bylW ⟨none,0,[]⟩) (ruE A1 A2 A3 c1 c2 c3) ⟨B,d,twoT 1 5 B1 B2 d1 d2⟩ vb (bylW_at letsW) HAT2.out HTH.out (by show 2≤4; omega) (two_two _ _ _ _ _ _)
  rw [show (bylW ⟨none,0,[]⟩).lets.l=[] from rfl] at hc
  simp only at hc
  rw [sm_hol,HBV.out,show (twoT 1 5 B1 B2 d1 d2).length=2 from rfl] at hc
  refine hc.mono ?_
  clear hc
  rintro r v1 ⟨rfl,hb3⟩
  have HQ3:=Lib.hid (HQ2.out.trans (hb3.mono HQ2.out.size))
  have HXc:=Lib.hid (HX.out.later HQ3.out)
  clear hb3 HAT HAT2 HTH HXa HXb
  go_wp2_with fail
  refine And.intro (by first | exact fun _=>HXc.out | exact HXc.out) ?_
  have hHeld:=HXc.out
  refine qtq 4 ?_
  simp only [qsa,qsb,qsc]
  refine qtq 5 ?_
  simp only [qsa,qsb,qsc]
  refine qtq 6 ?_
  simp only [qsa,qsb,qsc]
  refine qtq 7 ?_
  simp only [qsa,qsb,qsc]
  refine qtq 8 ?_
  simp only [qsa,qsb,qsc]
  refine wpAnyT_done (by kernel_rfl) ?_ _
  clear hHeld
  replace HB:=Lib.hid (HB.out.trans (HQ3.out.mono HB.out.size))
  replace HX:=HXc
  clear HQ HQ2 HQ3 HXc
  go_wp2_with fail
  refine wp_region_T (fun W=>Blk W w.heap.size 29 cs) (fun _=>false) (by kernel_rfl) HX.out.drew (fun hHeld=>?_)
  refine wpAnyT_take2 (i:=0) (v:=.agg cs) rfl rfl (by kernel_rfl) (by kernel_rfl) (by kernel_rfl) (by kernel_rfl) (fun _ _ _ h=>h) (yl_row (by rfl) 29 (.tmp 1) rfl w.heap.size rfl cs 29 _ (fun W h=>h) Tryz.underlying29 rfl (by rw [HS.out]; kernel_rfl)) hHeld ?_
  simp only [qsa,qsb,qsc]
  clear hHeld
  refine wpAnyT_next (i:=1) (by kernel_rfl) rfl ?_
  go_wp2_with fail
  refine (law_rule _).mono ?_
  unfold RulP
  rintro r va ⟨A1,A2,A3,c1,c2,c3,rfl,hat,hb1⟩
  have HQ : Hid (Below v1.heap.size v1 va):=Lib.hid (((Below.refl v1.heap.size v1).drew).trans hb1)
  have HXa:=Lib.hid (HX.out.later HQ.out)
  have HAT:=Lib.hid hat
  clear hat hb1
  go_wp2_with fail
  refine And.intro (by first | exact fun _=>HXa.out | exact HXa.out) ?_
  refine wpAnyT_next (i:=2) (by kernel_rfl) rfl ?_
  go_wp2_with fail
  refine (law_two 1 5 _).mono ?_
  unfold TwoP
  rintro r vb ⟨B,B1,B2,d,d1,d2,rfl,hth,hb2⟩
  have HQ2:=Lib.hid (HQ.out.trans (hb2.mono HQ.out.size))
  have HXb:=Lib.hid (HX.out.later HQ2.out)
  have HAT2:=Lib.hid (HAT.out.later hb2)
  have HTH:=Lib.hid hth
  clear hth hb2
  go_wp2_with fail
  refine And.intro (by first | exact fun _=>HXb.out | exact HXb.out) ?_
  refine wpAnyT_next (i:=3) (by kernel_rfl) rfl ?_
  go_wp2_with fail
  have hc:=why_Why (bylW ⟨none,0,[]⟩) (ruE A1 A2 A3 c1 c2 c3) ⟨B,d,twoT 1 5 B1 B2 d1 d2⟩ vb (HT.out.later (HB.out.trans (HQ2.out.mono HB.out.size))) (bylW_at letsW) HAT2.out HTH.out (by show 2≤4; omega) (two_two _ _ _ _ _ _)
  rw [show (bylW ⟨none,0,[]⟩).lets.l=[] from rfl] at hc
  simp only at hc
  rw [sm_why,HBV.out,show (twoT 1 5 B1 B2 d1 d2).length=2 from rfl] at hc
  refine hc.mono ?_
  clear hc
  unfold WhyP
  rintro r v2 ⟨hb3,xA,xc,rfl,hx0⟩
  have HQ3:=Lib.hid (HQ2.out.trans (hb3.mono HQ2.out.size))
  have HXc:=Lib.hid (HX.out.later HQ3.out)
  have HOX:=Lib.hid hx0
  clear hb3 HAT HAT2 HTH HXa HXb hx0
  go_wp2_with fail
  refine And.intro (by first | exact fun _=>HXc.out | exact HXc.out) ?_
  have hHeld:=HXc.out
  refine qtq 4 ?_
  simp only [qsa,qsb,qsc]
  refine qtq 5 ?_
  simp only [qsa,qsb,qsc]
  refine qtq 6 ?_
  simp only [qsa,qsb,qsc]
  refine qtq 7 ?_
  simp only [qsa,qsb,qsc]
  refine qtq 8 ?_
  simp only [qsa,qsb,qsc]
  refine wpAnyT_done (by kernel_rfl) ?_ _
  clear hHeld
  replace HB:=Lib.hid (HB.out.trans (HQ3.out.mono HB.out.size))
  replace HX:=HXc
  clear HQ HQ2 HQ3 HXc
  go_wp2_with fail
  refine wp_region_T (fun W=>Blk W w.heap.size 29 cs) (fun _=>false) (by kernel_rfl) HX.out.drew (fun hHeld=>?_)
  refine wpAnyT_take2 (i:=0) (v:=.agg cs) rfl rfl (by kernel_rfl) (by kernel_rfl) (by kernel_rfl) (by kernel_rfl) (fun _ _ _ h=>h) (yl_row (by rfl) 29 (.tmp 1) rfl w.heap.size rfl cs 29 _ (fun W h=>h) Tryz.underlying29 rfl (by rw [HS.out]; kernel_rfl)) hHeld ?_
  simp only [qsa,qsb,qsc]
  clear hHeld
  refine wpAnyT_next (i:=1) (by kernel_rfl) rfl ?_
  go_wp2_with fail
  refine (law_rule _).mono ?_
  unfold RulP
  rintro r va ⟨A1,A2,A3,c1,c2,c3,rfl,hat,hb1⟩
  have HQ : Hid (Below v2.heap.size v2 va):=Lib.hid (((Below.refl v2.heap.size v2).drew).trans hb1)
  have HXa:=Lib.hid (HX.out.later HQ.out)
  have HAT:=Lib.hid hat
  clear hat hb1
  go_wp2_with fail
  refine And.intro (by first | exact fun _=>HXa.out | exact HXa.out) ?_
  refine wpAnyT_next (i:=2) (by kernel_rfl) rfl ?_
  go_wp2_with fail
  refine (law_two 1 5 _).mono ?_
  unfold TwoP
  rintro r vb ⟨B,B1,B2,d,d1,d2,rfl,hth,hb2⟩
  have HQ2:=Lib.hid (HQ.out.trans (hb2.mono HQ.out.size))
  have HXb:=Lib.hid (HX.out.later HQ2.out)
  have HAT2:=Lib.hid (HAT.out.later hb2)
  have HTH:=Lib.hid hth
  clear hth hb2
  go_wp2_with fail
  refine And.intro (by first | exact fun _=>HXb.out | exact HXb.out) ?_
  refine wpAnyT_next (i:=3) (by kernel_rfl) rfl ?_
  go_wp2_with fail
  have hc:=why_Otherwise (bylW ⟨none,0,[]⟩) (ruE A1 A2 A3 c1 c2 c3) ⟨B,d,twoT 1 5 B1 B2 d1 d2⟩ vb (HT.out.later (HB.out.trans (HQ2.out.mono HB.out.size))) (bylW_at letsW) HAT2.out HTH.out (by show 2≤4; omega) (two_two _ _ _ _ _ _)
  rw [show (bylW ⟨none,0,[]⟩).lets.l=[] from rfl] at hc
  simp only at hc
  rw [sm_oth,HBV.out,show (twoT 1 5 B1 B2 d1 d2).length=2 from rfl] at hc
  refine hc.mono ?_
  clear hc
  unfold OthP
  rintro r v3 ⟨hb3,yA,yc,vA,vc,rfl,hy0,hv0⟩
  have HQ3:=Lib.hid (HQ2.out.trans (hb3.mono HQ2.out.size))
  have HXc:=Lib.hid (HX.out.later HQ3.out)
  have HOX:=Lib.hid (HOX.out.below HQ3.out)
  have HOY:=Lib.hid hy0
  have HOV:=Lib.hid hv0
  clear hb3 HAT HAT2 HTH HXa HXb hy0 hv0
  go_wp2_with fail
  refine And.intro (by first | exact fun _=>HXc.out | exact HXc.out) ?_
  have hHeld:=HXc.out
  refine qtq 4 ?_
  simp only [qsa,qsb,qsc]
  refine qtq 5 ?_
  simp only [qsa,qsb,qsc]
  refine qtq 6 ?_
  simp only [qsa,qsb,qsc]
  refine qtq 7 ?_
  simp only [qsa,qsb,qsc]
  refine qtq 8 ?_
  simp only [qsa,qsb,qsc]
  refine qtq 9 ?_
  simp only [qsa,qsb,qsc]
  refine qtq 10 ?_
  simp only [qsa,qsb,qsc]
  refine wpAnyT_done (by kernel_rfl) ?_ _
  clear hHeld
  replace HB:=Lib.hid (HB.out.trans (HQ3.out.mono HB.out.size))
  replace HX:=HXc
  clear HQ HQ2 HQ3 HXc
  go_wp2_with fail
  refine wp_region_T (fun W=>Blk W w.heap.size 29 cs) (fun _=>false) (by kernel_rfl) HX.out.drew (fun hHeld=>?_)
  refine wpAnyT_take2 (i:=0) (v:=.agg cs) rfl rfl (by kernel_rfl) (by kernel_rfl) (by kernel_rfl) (by kernel_rfl) (fun _ _ _ h=>h) (yl_row (by rfl) 29 (.tmp 1) rfl w.heap.size rfl cs 29 _ (fun W h=>h) Tryz.underlying29 rfl (by rw [HS.out]; kernel_rfl)) hHeld ?_
  simp only [qsa,qsb,qsc]
  clear hHeld
  refine wpAnyT_next (i:=1) (by kernel_rfl) rfl ?_
  go_wp2_with fail
  refine (law_rule _).mono ?_
  unfold RulP
  rintro r va ⟨A1,A2,A3,c1,c2,c3,rfl,hat,hb1⟩
  have HQ : Hid (Below v3.heap.size v3 va):=Lib.hid (((Below.refl v3.heap.size v3).drew).trans hb1)
  have HXa:=Lib.hid (HX.out.later HQ.out)
  have HAT:=Lib.hid hat
  clear hat hb1
  go_wp2_with fail
  refine And.intro (by first | exact fun _=>HXa.out | exact HXa.out) ?_
  refine wpAnyT_next (i:=2) (by kernel_rfl) rfl ?_
  go_wp2_with fail
  refine (law_two 5 1 _).mono ?_
  unfold TwoP
  rintro r vb ⟨B,B1,B2,d,d1,d2,rfl,hth,hb2⟩
  have HQ2:=Lib.hid (HQ.out.trans (hb2.mono HQ.out.size))
  have HXb:=Lib.hid (HX.out.later HQ2.out)
  have HAT2:=Lib.hid (HAT.out.later hb2)
  have HTH:=Lib.hid hth
  clear hth hb2
  go_wp2_with fail
  refine And.intro (by first | exact fun _=>HXb.out | exact HXb.out) ?_
  refine wpAnyT_next (i:=3) (by kernel_rfl) rfl ?_
  go_wp2_with fail
  have hc:=why_Why (bylW ⟨none,0,[]⟩) (ruE A1 A2 A3 c1 c2 c3) ⟨B,d,twoT 5 1 B1 B2 d1 d2⟩ vb (HT.out.later (HB.out.trans (HQ2.out.mono HB.out.size))) (bylW_at letsW) HAT2.out HTH.out (by show 2≤4; omega) (two_two _ _ _ _ _ _)
  rw [show (bylW ⟨none,0,[]⟩).lets.l=[] from rfl] at hc
  simp only at hc
  rw [sm_why2,HBV.out,show (twoT 5 1 B1 B2 d1 d2).length=2 from rfl] at hc
  refine hc.mono ?_
  clear hc
  unfold WhyP
  rintro r v4 ⟨hb3,zA,zc,rfl,hz0⟩
  have HQ3:=Lib.hid (HQ2.out.trans (hb3.mono HQ2.out.size))
  have HXc:=Lib.hid (HX.out.later HQ3.out)
  have HOX:=Lib.hid (HOX.out.below HQ3.out)
  have HOY:=Lib.hid (HOY.out.below HQ3.out)
  have HOV:=Lib.hid (HOV.out.below HQ3.out)
  have HOZ:=Lib.hid hz0
  clear hb3 HAT HAT2 HTH HXa HXb hz0
  go_wp2_with fail
  refine And.intro (by first | exact fun _=>HXc.out | exact HXc.out) ?_
  have hHeld:=HXc.out
  refine qtq 4 ?_
  simp only [qsa,qsb,qsc]
  refine qtq 5 ?_
  simp only [qsa,qsb,qsc]
  refine qtq 6 ?_
  simp only [qsa,qsb,qsc]
  refine qtq 7 ?_
  simp only [qsa,qsb,qsc]
  refine qtq 8 ?_
  simp only [qsa,qsb,qsc]
  refine wpAnyT_done (by kernel_rfl) ?_ _
  clear hHeld
  replace HB:=Lib.hid (HB.out.trans (HQ3.out.mono HB.out.size))
  replace HX:=HXc
  clear HQ HQ2 HQ3 HXc
  go_wp2_with fail
  refine wp_region_T (fun W=>Blk W w.heap.size 29 cs) (fun _=>false) (by kernel_rfl) HX.out.drew (fun hHeld=>?_)
  refine wpAnyT_take2 (i:=0) (v:=.agg cs) rfl rfl (by kernel_rfl) (by kernel_rfl) (by kernel_rfl) (by kernel_rfl) (fun _ _ _ h=>h) (yl_row (by rfl) 29 (.tmp 1) rfl w.heap.size rfl cs 29 _ (fun W h=>h) Tryz.underlying29 rfl (by rw [HS.out]; kernel_rfl)) hHeld ?_
  simp only [qsa,qsb,qsc]
  clear hHeld
  refine wpAnyT_next (i:=1) (by kernel_rfl) rfl ?_
  go_wp2_with fail
  refine (law_rule _).mono ?_
  unfold RulP
  rintro r va ⟨A1,A2,A3,c1,c2,c3,rfl,hat,hb1⟩
  have HQ : Hid (Below v4.heap.size v4 va):=Lib.hid (((Below.refl v4.heap.size v4).drew).trans hb1)
  have HXa:=Lib.hid (HX.out.later HQ.out)
  have HAT:=Lib.hid hat
  clear hat hb1
  go_wp2_with fail
  refine And.intro (by first | exact fun _=>HXa.out | exact HXa.out) ?_
  refine wpAnyT_next (i:=2) (by kernel_rfl) rfl ?_
  go_wp2_with fail
  refine (law_two 5 1 _).mono ?_
  unfold TwoP
  rintro r vb ⟨B,B1,B2,d,d1,d2,rfl,hth,hb2⟩
  have HQ2:=Lib.hid (HQ.out.trans (hb2.mono HQ.out.size))
  have HXb:=Lib.hid (HX.out.later HQ2.out)
  have HAT2:=Lib.hid (HAT.out.later hb2)
  have HTH:=Lib.hid hth
  clear hth hb2
  go_wp2_with fail
  refine And.intro (by first | exact fun _=>HXb.out | exact HXb.out) ?_
  refine wpAnyT_next (i:=3) (by kernel_rfl) rfl ?_
  go_wp2_with fail
  have hc:=why_Otherwise (bylW ⟨none,0,[]⟩) (ruE A1 A2 A3 c1 c2 c3) ⟨B,d,twoT 5 1 B1 B2 d1 d2⟩ vb (HT.out.later (HB.out.trans (HQ2.out.mono HB.out.size))) (bylW_at letsW) HAT2.out HTH.out (by show 2≤4; omega) (two_two _ _ _ _ _ _)
  rw [show (bylW ⟨none,0,[]⟩).lets.l=[] from rfl] at hc
  simp only at hc
  rw [sm_oth2,HBV.out,show (twoT 5 1 B1 B2 d1 d2).length=2 from rfl] at hc
  refine hc.mono ?_
  clear hc
  unfold OthP
  rintro r v5 ⟨hb3,uA,uc,pA,pc,rfl,hu0,hp0⟩
  have HQ3:=Lib.hid (HQ2.out.trans (hb3.mono HQ2.out.size))
  have HXc:=Lib.hid (HX.out.later HQ3.out)
  have HOX:=Lib.hid (HOX.out.below HQ3.out)
  have HOY:=Lib.hid (HOY.out.below HQ3.out)
  have HOV:=Lib.hid (HOV.out.below HQ3.out)
  have HOZ:=Lib.hid (HOZ.out.below HQ3.out)
  have HOU:=Lib.hid hu0
  have HOP:=Lib.hid hp0
  clear hb3 HAT HAT2 HTH HXa HXb hu0 hp0
  go_wp2_with fail
  refine And.intro (by first | exact fun _=>HXc.out | exact HXc.out) ?_
  have hHeld:=HXc.out
  refine qtq 4 ?_
  simp only [qsa,qsb,qsc]
  refine qtq 5 ?_
  simp only [qsa,qsb,qsc]
  refine qtq 6 ?_
  simp only [qsa,qsb,qsc]
  refine qtq 7 ?_
  simp only [qsa,qsb,qsc]
  refine qtq 8 ?_
  simp only [qsa,qsb,qsc]
  refine qtq 9 ?_
  simp only [qsa,qsb,qsc]
  refine qtq 10 ?_
  simp only [qsa,qsb,qsc]
  refine wpAnyT_done (by kernel_rfl) ?_ _
  clear hHeld
  replace HB:=Lib.hid (HB.out.trans (HQ3.out.mono HB.out.size))
  replace HX:=HXc
  clear HQ HQ2 HQ3 HXc
  clear HX HBV HS
  go_wp2_with fail
  have hi:=r46_Ints ⟨xA,xc,intL [0]⟩ ⟨some ⟨v5.heap.size,0,none⟩,1,[0]⟩ (v5.alloc (.cells #[.int .i64 0] 3)) (((HOX.out.alloc _).rd ienc_k).mono (fun b hb=>hb.2)) (rd_ints (Blk.new _ _ _))
  have hd : decide (intL [0]=[0])=true:=by decide
  simp only [hd] at hi
  refine hi.mono ?_
  clear hi hd
  rintro r u0 ⟨rfl,hb⟩
  have hq : Below v5.heap.size v5 u0:=((Below.refl _ _).alloc (Nat.le_refl _) _).trans (hb.mono (by simp))
  replace HB:=Lib.hid (HB.out.trans (hq.mono HB.out.size))
  replace HOX:=Lib.hid (HOX.out.below hq)
  replace HOY:=Lib.hid (HOY.out.below hq)
  replace HOV:=Lib.hid (HOV.out.below hq)
  replace HOZ:=Lib.hid (HOZ.out.below hq)
  replace HOU:=Lib.hid (HOU.out.below hq)
  replace HOP:=Lib.hid (HOP.out.below hq)
  clear hb hq
  go_wp2_with fail
  have hi:=r46_Ints ⟨yA,yc,intL [0]⟩ ⟨some ⟨u0.heap.size,0,none⟩,1,[0]⟩ (u0.alloc (.cells #[.int .i64 0] 3)) (((HOY.out.alloc _).rd ienc_k).mono (fun b hb=>hb.2)) (rd_ints (Blk.new _ _ _))
  have hd : decide (intL [0]=[0])=true:=by decide
  simp only [hd] at hi
  refine hi.mono ?_
  clear hi hd
  rintro r u1 ⟨rfl,hb⟩
  have hq : Below u0.heap.size u0 u1:=((Below.refl _ _).alloc (Nat.le_refl _) _).trans (hb.mono (by simp))
  replace HB:=Lib.hid (HB.out.trans (hq.mono HB.out.size))
  replace HOX:=Lib.hid (HOX.out.below hq)
  replace HOY:=Lib.hid (HOY.out.below hq)
  replace HOV:=Lib.hid (HOV.out.below hq)
  replace HOZ:=Lib.hid (HOZ.out.below hq)
  replace HOU:=Lib.hid (HOU.out.below hq)
  replace HOP:=Lib.hid (HOP.out.below hq)
  clear hb hq
  go_wp2_with fail
  have hi:=r46_Ints ⟨vA,vc,[30]⟩ ⟨some ⟨u1.heap.size,0,none⟩,1,[30]⟩ (u1.alloc (.cells #[.int .i64 30] 3)) (((HOV.out.alloc _).rd ienc_k).mono (fun b hb=>hb.2)) (rd_ints (Blk.new _ _ _))
  have hd : decide ([30]=[30])=true:=by decide
  simp only [hd] at hi
  refine hi.mono ?_
  clear hi hd
  rintro r u2 ⟨rfl,hb⟩
  have hq : Below u1.heap.size u1 u2:=((Below.refl _ _).alloc (Nat.le_refl _) _).trans (hb.mono (by simp))
  replace HB:=Lib.hid (HB.out.trans (hq.mono HB.out.size))
  replace HOX:=Lib.hid (HOX.out.below hq)
  replace HOY:=Lib.hid (HOY.out.below hq)
  replace HOV:=Lib.hid (HOV.out.below hq)
  replace HOZ:=Lib.hid (HOZ.out.below hq)
  replace HOU:=Lib.hid (HOU.out.below hq)
  replace HOP:=Lib.hid (HOP.out.below hq)
  clear hb hq
  go_wp2_with fail
  have hi:=r46_Ints ⟨zA,zc,intL [0]⟩ ⟨some ⟨u2.heap.size,0,none⟩,1,[0]⟩ (u2.alloc (.cells #[.int .i64 0] 3)) (((HOZ.out.alloc _).rd ienc_k).mono (fun b hb=>hb.2)) (rd_ints (Blk.new _ _ _))
  have hd : decide (intL [0]=[0])=true:=by decide
  simp only [hd] at hi
  refine hi.mono ?_
  clear hi hd
  rintro r u3 ⟨rfl,hb⟩
  have hq : Below u2.heap.size u2 u3:=((Below.refl _ _).alloc (Nat.le_refl _) _).trans (hb.mono (by simp))
  replace HB:=Lib.hid (HB.out.trans (hq.mono HB.out.size))
  replace HOX:=Lib.hid (HOX.out.below hq)
  replace HOY:=Lib.hid (HOY.out.below hq)
  replace HOV:=Lib.hid (HOV.out.below hq)
  replace HOZ:=Lib.hid (HOZ.out.below hq)
  replace HOU:=Lib.hid (HOU.out.below hq)
  replace HOP:=Lib.hid (HOP.out.below hq)
  clear hb hq
  go_wp2_with fail
  have hi:=r46_Ints ⟨uA,uc,intL [0,1]⟩ ⟨some ⟨u3.heap.size,0,none⟩,2,[0,1]⟩ (u3.alloc (.cells #[.int .i64 0,.int .i64 1] 3)) (((HOU.out.alloc _).rd ienc_k).mono (fun b hb=>hb.2)) (rd_twoG ienc_k (Blk.new _ _ _))
  have hd : decide (intL [0,1]=[0,1])=true:=by decide
  simp only [hd] at hi
  refine hi.mono ?_
  clear hi hd
  rintro r u4 ⟨rfl,hb⟩
  have hq : Below u3.heap.size u3 u4:=((Below.refl _ _).alloc (Nat.le_refl _) _).trans (hb.mono (by simp))
  replace HB:=Lib.hid (HB.out.trans (hq.mono HB.out.size))
  replace HOX:=Lib.hid (HOX.out.below hq)
  replace HOY:=Lib.hid (HOY.out.below hq)
  replace HOV:=Lib.hid (HOV.out.below hq)
  replace HOZ:=Lib.hid (HOZ.out.below hq)
  replace HOU:=Lib.hid (HOU.out.below hq)
  replace HOP:=Lib.hid (HOP.out.below hq)
  clear hb hq
  go_wp2_with fail
  have hi:=r46_Ints ⟨pA,pc,[30,1]⟩ ⟨some ⟨u4.heap.size,0,none⟩,2,[30,1]⟩ (u4.alloc (.cells #[.int .i64 30,.int .i64 1] 3)) (((HOP.out.alloc _).rd ienc_k).mono (fun b hb=>hb.2)) (rd_twoG ienc_k (Blk.new _ _ _))
  have hd : decide ([30,1]=[30,1])=true:=by decide
  simp only [hd] at hi
  refine hi.mono ?_
  clear hi hd
  rintro r u5 ⟨rfl,hb⟩
  have hq : Below u4.heap.size u4 u5:=((Below.refl _ _).alloc (Nat.le_refl _) _).trans (hb.mono (by simp))
  replace HB:=Lib.hid (HB.out.trans (hq.mono HB.out.size))
  replace HOX:=Lib.hid (HOX.out.below hq)
  replace HOY:=Lib.hid (HOY.out.below hq)
  replace HOV:=Lib.hid (HOV.out.below hq)
  replace HOZ:=Lib.hid (HOZ.out.below hq)
  replace HOU:=Lib.hid (HOU.out.below hq)
  replace HOP:=Lib.hid (HOP.out.below hq)
  clear hb hq
  clear HOX HOY HOV HOZ HOU HOP
  go_wp2_with fail
  refine (law_two 1 5 _).mono ?_
  unfold TwoP
  rintro r s0 ⟨B,B1,B2,d,d1,d2,rfl,hth,hb⟩
  have hr:=why_Right ⟨B,d,twoT 1 5 B1 B2 d1 d2⟩ s0 hth (by show 2≤4; omega) (two_two _ _ _ _ _ _)
  simp only [sm_r15,show (twoT 1 5 B1 B2 d1 d2).length=2 from rfl] at hr
  replace HB:=Lib.hid (HB.out.trans (hb.mono HB.out.size))
  clear hb hth
  go_wp2_with fail
  refine hr.mono ?_
  clear hr
  rintro r q0 ⟨rfl,hb⟩
  replace HB:=Lib.hid (HB.out.trans (hb.mono HB.out.size))
  clear hb
  go_wp2_with fail
  refine (law_two 1 1 _).mono ?_
  unfold TwoP
  rintro r s1 ⟨B,B1,B2,d,d1,d2,rfl,hth,hb⟩
  have hr:=why_Right ⟨B,d,twoT 1 1 B1 B2 d1 d2⟩ s1 hth (by show 2≤4; omega) (two_two _ _ _ _ _ _)
  simp only [sm_r11,show (twoT 1 1 B1 B2 d1 d2).length=2 from rfl] at hr
  replace HB:=Lib.hid (HB.out.trans (hb.mono HB.out.size))
  clear hb hth
  go_wp2_with fail
  refine hr.mono ?_
  clear hr
  rintro r q1 ⟨rfl,hb⟩
  replace HB:=Lib.hid (HB.out.trans (hb.mono HB.out.size))
  clear hb
  go_wp2_with fail
  go_ret
  exact ⟨rfl,HB.out⟩
end Go.Proofs.YtmomlipmpgcheaaGreatDoor
