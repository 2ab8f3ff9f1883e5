/- Walks of the laws' helpers: rule, two. -/
import Derived.Test.YtmomlipmpgcheaaGreatDoorWbxbo
set_option linter.unusedSimpArgs false
set_option linter.unusedVariables false
set_option maxRecDepth 100000
set_option maxHeartbeats 6400000
namespace Go.Proofs.YtmomlipmpgcheaaGreatDoor
open Go.RowKit
theorem pt_leafW {F : Nat→Prop} {w : World} (o n u : Int) (s : ByteArray) (h : s.size≤9223372036854775807) : PT.At F w ⟨o,n,u,s,none,0,[]⟩:=.mk h (Rd.nil _ _ _ _) (fun x hx=>by cases hx)
def ruA (A1 : Option Addr) (c1 : Nat) : PT:=⟨10,0,0,⟨#[]⟩,A1,c1,[⟨2,0,0,⟨#[114,105,100,101]⟩,none,0,[]⟩,⟨0,40,2,⟨#[]⟩,none,0,[]⟩]⟩
def ruB (A2 : Option Addr) (c2 : Nat) : PT:=⟨10,0,0,⟨#[]⟩,A2,c2,[⟨3,0,0,⟨#[110,111,115,104,111,119,115]⟩,none,0,[]⟩,⟨0,3,0,⟨#[]⟩,none,0,[]⟩]⟩
def ruE (A1 A2 A3 : Option Addr) (c1 c2 c3 : Nat) : PT:=⟨13,0,0,⟨#[]⟩,A3,c3,[ruA A1 c1,ruB A2 c2]⟩
def RulP (w w' : World) (r : Ending) : Prop:=∃ (A1 A2 A3 : Option Addr) (c1 c2 c3 : Nat),r = .returned (ruE A1 A2 A3 c1 c2 c3).v∧PT.At (· < w'.heap.size) w' (ruE A1 A2 A3 c1 c2 c3)∧Below w.heap.size w w'
def twoT (n i : Int) (A1 A2 : Option Addr) (c1 c2 : Nat) : List TH:=[⟨false,⟨#[114,105,100,101]⟩,50,⟨A1,c1,[30]⟩⟩,⟨true,⟨#[110,111,115,104,111,119,115]⟩,n,⟨A2,c2,[i]⟩⟩]
def TwoP (w w' : World) (n i : Int) (r : Ending) : Prop:=∃ (A A1 A2 : Option Addr) (c c1 c2 : Nat),r = .returned (.slice A 2 c)∧ThsAt (· < w'.heap.size) w' ⟨A,c,twoT n i A1 A2 c1 c2⟩∧Below w.heap.size w w'
theorem rd_twoG {α : Type} {k : Nat} {enc : α→List Value} {W : World} {g : Nat} {t : TypeId} {x y : α} (hk : ∀ x,(enc x).length=k) (h : Blk W g t (enc x ++ enc y).toArray) : Rd (· < W.heap.size) k enc W ⟨some ⟨g,0,none⟩,2,[x,y]⟩ :=
  ⟨Nat.le_refl _,by unfold maxLen; simp,fun h=>by simp at h,fun i z hz=>⟨g,0,rfl,h.lt,fun j u hu=>by
    have hj : j<k:=by rw [← hk z]; exact (List.getElem?_eq_some_iff.1 hu).1
    rw [h.cell,List.getElem?_toArray]
    rcases i with _ | _ | i
    · simp only [List.getElem?_cons_zero,Option.some.injEq] at hz
      subst hz
      rw [Nat.zero_mul,Nat.add_zero,Nat.zero_add,List.getElem?_append_left (by rw [hk]; exact hj)]
      exact hu
    · simp only [List.getElem?_cons_succ,List.getElem?_cons_zero,Option.some.injEq] at hz
      subst hz
      rw [Nat.one_mul,Nat.zero_add,List.getElem?_append_right (by rw [hk]; omega),hk,Nat.add_sub_cancel_left]
      exact hu
    · simp at hz⟩⟩
theorem law_two (n i : Int) (w : World) : Calls Tryz.prog 28 #[.int .i64 n,.int .i64 i] w fun r w'=>TwoP w w' n i r:=by
  go_enter Tryz.func28,Tryz.ntmps28
  go_wp2_with fail
  have hb : Below w.heap.size w (((w.alloc (.cells #[.int .i64 30] 3)).alloc (.cells #[.int .i64 i] 3)).alloc (.cells #[.bool false,.string ⟨#[114,105,100,101]⟩,.int .i64 50,.slice (some ⟨w.heap.size,0,none⟩) 1 1,.bool true,.string ⟨#[110,111,115,104,111,119,115]⟩,.int .i64 n,.slice (some ⟨w.heap.size+1,0,none⟩) 1 1] 61)):=qbl
  have h1 : Blk (((w.alloc (.cells #[.int .i64 30] 3)).alloc (.cells #[.int .i64 i] 3)).alloc (.cells #[.bool false,.string ⟨#[114,105,100,101]⟩,.int .i64 50,.slice (some ⟨w.heap.size,0,none⟩) 1 1,.bool true,.string ⟨#[110,111,115,104,111,119,115]⟩,.int .i64 n,.slice (some ⟨w.heap.size+1,0,none⟩) 1 1] 61)) w.heap.size 3 #[.int .i64 30]:=((Blk.new _ _ _).alloc _).alloc _
  have h2 : Blk (((w.alloc (.cells #[.int .i64 30] 3)).alloc (.cells #[.int .i64 i] 3)).alloc (.cells #[.bool false,.string ⟨#[114,105,100,101]⟩,.int .i64 50,.slice (some ⟨w.heap.size,0,none⟩) 1 1,.bool true,.string ⟨#[110,111,115,104,111,119,115]⟩,.int .i64 n,.slice (some ⟨w.heap.size+1,0,none⟩) 1 1] 61)) (w.heap.size+1) 3 #[.int .i64 i]:=(Blk.new' (by simp)).alloc _
  have h3 : Blk (((w.alloc (.cells #[.int .i64 30] 3)).alloc (.cells #[.int .i64 i] 3)).alloc (.cells #[.bool false,.string ⟨#[114,105,100,101]⟩,.int .i64 50,.slice (some ⟨w.heap.size,0,none⟩) 1 1,.bool true,.string ⟨#[110,111,115,104,111,119,115]⟩,.int .i64 n,.slice (some ⟨w.heap.size+1,0,none⟩) 1 1] 61)) (w.heap.size+1+1) 61 ((⟨false,⟨#[114,105,100,101]⟩,50,⟨some ⟨w.heap.size,0,none⟩,1,[30]⟩⟩ : TH).enc ++ (⟨true,⟨#[110,111,115,104,111,119,115]⟩,n,⟨some ⟨w.heap.size+1,0,none⟩,1,[i]⟩⟩ : TH).enc).toArray:=Blk.new' (by simp)
  generalize (((w.alloc (.cells #[.int .i64 30] 3)).alloc (.cells #[.int .i64 i] 3)).alloc (.cells #[.bool false,.string ⟨#[114,105,100,101]⟩,.int .i64 50,.slice (some ⟨w.heap.size,0,none⟩) 1 1,.bool true,.string ⟨#[110,111,115,104,111,119,115]⟩,.int .i64 n,.slice (some ⟨w.heap.size+1,0,none⟩) 1 1] 61))=w3 at *
  go_ret
  refine ⟨some ⟨w.heap.size+1+1,0,none⟩,some ⟨w.heap.size,0,none⟩,some ⟨w.heap.size+1,0,none⟩,2,1,1,rfl,⟨rd_twoG TH.enc_k h3,fun x hx=>?_⟩,hb⟩
  simp only [twoT,List.mem_cons,List.not_mem_nil,or_false] at hx
  rcases hx with rfl | rfl
  · exact ⟨by show ByteArray.size ⟨#[114,105,100,101]⟩≤_; decide,rd_ints h1⟩
  · exact ⟨by show ByteArray.size ⟨#[110,111,115,104,111,119,115]⟩≤_; decide,rd_ints h2⟩
theorem law_rule (w : World) : Calls Tryz.prog 27 #[] w fun r w'=>RulP w w' r:=by
  go_enter Tryz.func27,Tryz.ntmps27
  go_wp2_with fail
  obtain ⟨w1,hw1⟩ : ∃ z,z=w.alloc (.cells #[.int .i64 13,.int .i64 0,.int .i64 0,.string ⟨#[]⟩,.slice (some ⟨w.heap.size+1+1+1+1+1,0,none⟩) 2 2] 25):=⟨_,rfl⟩
  obtain ⟨w2,hw2⟩ : ∃ z,z=w1.alloc (.cells #[.int .i64 2,.int .i64 0,.int .i64 0,.string ⟨#[114,105,100,101]⟩,.slice none 0 0,.int .i64 0,.int .i64 40,.int .i64 2,.string ⟨#[]⟩,.slice none 0 0] 25):=⟨_,rfl⟩
  obtain ⟨w3,hw3⟩ : ∃ z,z=w2.alloc (.cells #[.int .i64 10,.int .i64 0,.int .i64 0,.string ⟨#[]⟩,.slice (some ⟨w.heap.size+1,0,none⟩) 2 2] 25):=⟨_,rfl⟩
  obtain ⟨w4,hw4⟩ : ∃ z,z=w3.alloc (.cells #[.int .i64 3,.int .i64 0,.int .i64 0,.string ⟨#[110,111,115,104,111,119,115]⟩,.slice none 0 0,.int .i64 0,.int .i64 3,.int .i64 0,.string ⟨#[]⟩,.slice none 0 0] 25):=⟨_,rfl⟩
  obtain ⟨w5,hw5⟩ : ∃ z,z=w4.alloc (.cells #[.int .i64 10,.int .i64 0,.int .i64 0,.string ⟨#[]⟩,.slice (some ⟨w.heap.size+1+1+1,0,none⟩) 2 2] 25):=⟨_,rfl⟩
  obtain ⟨w6,hw6⟩ : ∃ z,z=w5.alloc (.cells #[.int .i64 10,.int .i64 0,.int .i64 0,.string ⟨#[]⟩,.slice (some ⟨w.heap.size+1,0,none⟩) 2 2,.int .i64 10,.int .i64 0,.int .i64 0,.string ⟨#[]⟩,.slice (some ⟨w.heap.size+1+1+1,0,none⟩) 2 2] 25):=⟨_,rfl⟩
  rw [← hw1,← hw2,← hw3,← hw4,← hw5,← hw6]
  have s1 : w1.heap.size=w.heap.size+1:=by rw [hw1]; simp
  have s2 : w2.heap.size=w.heap.size+2:=by rw [hw2]; simp [s1]
  have s3 : w3.heap.size=w.heap.size+3:=by rw [hw3]; simp [s2]
  have s4 : w4.heap.size=w.heap.size+4:=by rw [hw4]; simp [s3]
  have s5 : w5.heap.size=w.heap.size+5:=by rw [hw5]; simp [s4]
  have b1 : Below w.heap.size w w1:=by rw [hw1]; exact (Below.refl _ _).alloc (Nat.le_refl _) _
  have b2 : Below w1.heap.size w1 w2:=by rw [hw2]; exact (Below.refl _ _).alloc (Nat.le_refl _) _
  have b3 : Below w2.heap.size w2 w3:=by rw [hw3]; exact (Below.refl _ _).alloc (Nat.le_refl _) _
  have b4 : Below w3.heap.size w3 w4:=by rw [hw4]; exact (Below.refl _ _).alloc (Nat.le_refl _) _
  have b5 : Below w4.heap.size w4 w5:=by rw [hw5]; exact (Below.refl _ _).alloc (Nat.le_refl _) _
  have b6 : Below w5.heap.size w5 w6:=by rw [hw6]; exact (Below.refl _ _).alloc (Nat.le_refl _) _
  have k1 : Blk w1 w.heap.size 25 #[.int .i64 13,.int .i64 0,.int .i64 0,.string ⟨#[]⟩,.slice (some ⟨w.heap.size+1+1+1+1+1,0,none⟩) 2 2]:=by rw [hw1]; exact Blk.new _ _ _
  have k2 : Blk w2 (w.heap.size+1) 25 ((PT.mk 2 0 0 ⟨#[114,105,100,101]⟩ none 0 []).enc ++ (PT.mk 0 40 2 ⟨#[]⟩ none 0 []).enc).toArray:=by rw [hw2]; exact Blk.new' (by omega)
  have k4 : Blk w4 (w.heap.size+3) 25 ((PT.mk 3 0 0 ⟨#[110,111,115,104,111,119,115]⟩ none 0 []).enc ++ (PT.mk 0 3 0 ⟨#[]⟩ none 0 []).enc).toArray:=by rw [hw4]; exact Blk.new' (by omega)
  have k6 : Blk w6 (w.heap.size+5) 25 ((ruA (some ⟨w.heap.size+1,0,none⟩) 2).enc ++ (ruB (some ⟨w.heap.size+3,0,none⟩) 2).enc).toArray:=by rw [hw6]; exact Blk.new' (by omega)
  have k1':=((((k1.later b2).later b3).later b4).later b5).later b6
  have k2':=(((k2.later b3).later b4).later b5).later b6
  have k4':=(k4.later b5).later b6
  have hb : Below w.heap.size w w6:=((((b1.trans (b2.mono (by omega))).trans (b3.mono (by omega))).trans (b4.mono (by omega))).trans (b5.mono (by omega))).trans (b6.mono (by omega))
  have hA : PT.At (· < w6.heap.size) w6 (ruA (some ⟨w.heap.size+1,0,none⟩) 2):=.mk (by decide) (rd_twoG PT.enc_k k2') (fun x hx=>by
    simp only [List.mem_cons,List.not_mem_nil,or_false] at hx
    rcases hx with rfl | rfl
    · exact pt_leafW _ _ _ _ (by decide)
    · exact pt_leafW _ _ _ _ (by decide))
  have hB : PT.At (· < w6.heap.size) w6 (ruB (some ⟨w.heap.size+3,0,none⟩) 2):=.mk (by decide) (rd_twoG PT.enc_k k4') (fun x hx=>by
    simp only [List.mem_cons,List.not_mem_nil,or_false] at hx
    rcases hx with rfl | rfl
    · exact pt_leafW _ _ _ _ (by decide)
    · exact pt_leafW _ _ _ _ (by decide))
  have hE : PT.At (· < w6.heap.size) w6 (ruE (some ⟨w.heap.size+1,0,none⟩) (some ⟨w.heap.size+3,0,none⟩) (some ⟨w.heap.size+5,0,none⟩) 2 2 2):=.mk (by decide) (rd_twoG PT.enc_k k6) (fun x hx=>by
    simp only [List.mem_cons,List.not_mem_nil,or_false] at hx
    rcases hx with rfl | rfl
    · exact hA
    · exact hB)
  clear hw1 hw2 hw3 hw4 hw5 hw6
  refine bodyPost_ret (results_cell_row rfl _ _ w.heap.size 25 #[.int .i64 13,.int .i64 0,.int .i64 0,.string ⟨#[]⟩,.slice (some ⟨w.heap.size+1+1+1+1+1,0,none⟩) 2 2] (0,0) _ rfl k1' Tryz.underlying25 rfl (by kernel_rfl)) rfl ?_
  exact ⟨some ⟨w.heap.size+1,0,none⟩,some ⟨w.heap.size+3,0,none⟩,some ⟨w.heap.size+5,0,none⟩,2,2,2,rfl,hE,hb⟩
def ThP (w w' : World) (l : List TH) (r : Ending) : Prop:=∃ (A : Option Addr) (c : Nat),r = .returned (.slice A l.length c)∧ThsAt (· < w'.heap.size) w' ⟨A,c,l⟩∧Below w.heap.size w w'
theorem law_things (l : Sl TH) (w : World) (hl : ThsAt (· < w.heap.size) w l) (h4 : l.l.length≤4) : Calls Tryz.prog 11 #[.slice l.A l.l.length l.c] w fun r w'=>ThP w w' l.l r:=by
  have HL:=Lib.hid hl
  clear hl
  obtain ⟨A,c,l⟩:=l
  simp only at h4 ⊢
  go_enter Tryz.func11,Tryz.ntmps11
  go_wp2_with fail
  go_loopw [3,4] (fun ov iv wr=>∃ (k : Nat) (oA : Option Addr) (oc : Nat) (out : List TH),k≤l.length∧ov = .slice oA out.length oc∧iv = .int .i64 k∧Hid (Below w.heap.size w wr)∧Hid (Own w.heap.size 61 4 TH.enc wr ⟨oA,oc,out⟩)∧Hid (out=l.take k)) (fun _ iv _=>l.length - (intOf iv).toNat)
  case atStart=>exact ⟨0,none,0,[],by omega,rfl,rfl,Lib.hid (Below.refl _ _),Lib.hid (Own.nil _ _ _ _ _),Lib.hid rfl⟩
  case round =>
    obtain ⟨k,oA,oc,out,hk,rfl,rfl,HB,HO,HU⟩:=hrel
    by_cases hlt : k<l.length
    · obtain ⟨bb,oo,hA,hbb,hcl⟩:=HL.out.rd.at1 hlt
      simp only at hA hbb hcl
      have hcl2:=hcl.keep (HB.out.block bb hbb)
      have hon : out ++ [l[k]]=l.take (k+1):=by rw [List.take_add_one,List.getElem?_eq_getElem hlt,HU.out]; rfl
      have hol : out.length≤4:=by rw [HU.out,List.length_take]; omega
      generalize l[k]=y at *
      obtain ⟨ym,yn,yv,⟨yA,yc,yl⟩⟩:=y
      obtain ⟨g0,g1,g2,g3⟩:=Cells.c4 hcl2
      simp only at g0 g1 g2 g3
      have HON:=Lib.hid hon
      clear hcl2 hcl hon
      subst hA
      have hk8 : (k : Int)<(l.length : Int):=by omega
      go_wp2_with fail
      refine wp_region_T (fun W=>(W.cell? ⟨bb,oo+k * 4,none⟩=some (.bool ym)∧W.cell? ⟨bb,oo+k * 4+1,none⟩=some (.string yn)∧W.cell? ⟨bb,oo+k * 4+2,none⟩=some (.int .i64 yv)∧W.cell? ⟨bb,oo+k * 4+3,none⟩=some (.slice yA yl.length yc))) (fun _=>false) (by kernel_rfl) ⟨g0,g1,g2,g3⟩ (fun hHeld=>?_)
      refine qtq 0 ?_
      simp only [qsa,qsb,qsc]
      refine qtq 1 ?_
      simp only [qsa,qsb,qsc]
      refine qtq 2 ?_
      simp only [qsa,qsb,qsc]
      refine qtq 3 ?_
      simp only [qsa,qsb,qsc]
      refine qtq 4 ?_
      simp only [qsa,qsb,qsc]
      refine qtq 5 ?_
      simp only [qsa,qsb,qsc]
      refine qtq 6 ?_
      simp only [qsa,qsb,qsc]
      refine qtq 7 ?_
      simp only [qsa,qsb,qsc]
      refine qtq 8 ?_
      simp only [qsa,qsb,qsc]
      refine qtq 9 ?_
      simp only [qsa,qsb,qsc]
      refine qtq 10 ?_
      simp only [qsa,qsb,qsc]
      refine qtq 11 ?_
      simp only [qsa,qsb,qsc]
      refine qtq 12 ?_
      simp only [qsa,qsb,qsc]
      refine qtq 13 ?_
      simp only [qsa,qsb,qsc]
      refine qtq 14 ?_
      simp only [qsa,qsb,qsc]
      refine qtq 15 ?_
      simp only [qsa,qsb,qsc]
      refine qtq 16 ?_
      simp only [qsa,qsb,qsc]
      refine qtq 17 ?_
      simp only [qsa,qsb,qsc]
      refine qtq 18 ?_
      simp only [qsa,qsb,qsc]
      refine qtq 19 ?_
      simp only [qsa,qsb,qsc]
      refine qtq 20 ?_
      simp only [qsa,qsb,qsc]
      refine qtq 21 ?_
      simp only [qsa,qsb,qsc]
      clear hHeld
      refine wpAnyT_next (i:=22) (by kernel_rfl) rfl ?_
      go_wp2_with fail
      have hba : Below wr.heap.size wr ((wr.alloc (.cells #[.bool ym,.string yn,.int .i64 yv,.slice yA yl.length yc] 61)).drew):=((Below.refl _ _).alloc (Nat.le_refl _) _).drew
      have HB2:=Lib.hid (HB.out.trans (hba.mono HB.out.size))
      have HO2:=Lib.hid (HO.out.below hba)
      have hg2 : Blk ((wr.alloc (.cells #[.bool ym,.string yn,.int .i64 yv,.slice yA yl.length yc] 61)).drew) wr.heap.size 61 (TH.enc ⟨ym,yn,yv,⟨yA,yc,yl⟩⟩).toArray:=Blk.new wr 61 _
      have HG2:=Lib.hid hg2
      replace g0:=keep_cell hba g0
      replace g1:=keep_cell hba g1
      replace g2:=keep_cell hba g2
      replace g3:=keep_cell hba g3
      clear hba hg2 HB HO
      go_wp2_with fail
      refine And.intro (by first | exact fun _=>⟨g0,g1,g2,g3⟩ | exact ⟨g0,g1,g2,g3⟩) ?_
      refine wpAnyT_next (i:=23) (by kernel_rfl) rfl ?_
      generalize ((wr.alloc (.cells #[.bool ym,.string yn,.int .i64 yv,.slice yA yl.length yc] 61)).drew)=w10 at *
      refine wpl_append_sl _ rfl (.tmp 11) (.tmp 33) _ rfl Tryz.underlying34 infoTH (by omega) TH.enc_k TH.enc_one ⟨oA,oc,out⟩ ⟨some ⟨wr.heap.size,0,none⟩,1,[⟨ym,yn,yv,⟨yA,yc,yl⟩⟩]⟩ rfl rfl HO2.out (rd_oneG HG2.out) (by simp [maxLen]; omega) (by simp; omega) HB2.out.size ?_
      intro A1 c1 w11 hown hg hAA
      have hge:=fun j hj=>own_geI HO2.out j hj
      have hnr : some bb≠(Value.slice oA out.length oc).ownBlock:=fun e=>by have:=hge bb e.symm; omega
      have HB3:=Lib.hid (HB2.out.grown hg HB2.out.size hge)
      have HO3:=Lib.hid hown
      replace g0:=grown_cell hg g0 hnr
      replace g1:=grown_cell hg g1 hnr
      replace g2:=grown_cell hg g2 hnr
      replace g3:=grown_cell hg g3 hnr
      simp only [List.length_append,List.length_cons,List.length_nil,Nat.zero_add] at HO3 ⊢
      clear hown hg hAA hge hnr HB2 HO2 HG2
      go_wp2_with fail
      refine And.intro (by first | exact fun _=>⟨g0,g1,g2,g3⟩ | exact ⟨g0,g1,g2,g3⟩) ?_
      refine wpAnyT_next (i:=24) (by kernel_rfl) rfl ?_
      go_wp2_with fail
      refine And.intro (by first | exact fun _=>⟨g0,g1,g2,g3⟩ | exact ⟨g0,g1,g2,g3⟩) ?_
      refine wpAnyT_done (by kernel_rfl) ?_ _
      clear g0 g1 g2 g3
      go_wp2_with fail
      go_roundw
      case rel=>exact ⟨k+1,A1,c1,out ++ [⟨ym,yn,yv,⟨yA,yc,yl⟩⟩],by omega,by simp,by go_num,HB3,HO3,HON⟩
      case measure=>simp [intOf]; omega
    · have hkl : k=l.length:=by omega
      have hue : out=l:=by rw [HU.out,hkl,List.take_length]
      subst hue
      clear hkl HU
      have hat : ThsAt (· < wr.heap.size) wr ⟨oA,oc,out⟩:=⟨(HO.out.rd TH.enc_k).mono (fun b hb=>hb.2),fun x hx=>(HL.out.all x hx).later HB.out⟩
      go_wp2_with fail
      go_ret
      exact ⟨oA,oc,rfl,hat,HB.out⟩
section
variable (A1 A2 A3 B1 B2 : Option Addr) (c1 c2 c3 d1 d2 : Nat)
theorem sm_hol : HolV [] (ruE A1 A2 A3 c1 c2 c3) (twoT 1 5 B1 B2 d1 d2)=(false,0):=by kernel_rfl
theorem sm_why : WhyV [] (ruE A1 A2 A3 c1 c2 c3) (twoT 1 5 B1 B2 d1 d2)=([0],0):=by kernel_rfl
theorem sm_oth : OthV [] (ruE A1 A2 A3 c1 c2 c3) (twoT 1 5 B1 B2 d1 d2)=([0],[30],0):=by kernel_rfl
theorem sm_why2 : WhyV [] (ruE A1 A2 A3 c1 c2 c3) (twoT 5 1 B1 B2 d1 d2)=([0],0):=by kernel_rfl
theorem sm_oth2 : OthV [] (ruE A1 A2 A3 c1 c2 c3) (twoT 5 1 B1 B2 d1 d2)=([0,1],[30,1],0):=by kernel_rfl
theorem sm_r15 : rightT [] (twoT 1 5 B1 B2 d1 d2)=true:=by kernel_rfl
theorem sm_r11 : rightT [] (twoT 1 1 B1 B2 d1 d2)=false:=by kernel_rfl
end
end Go.Proofs.YtmomlipmpgcheaaGreatDoor
