/- Walks: unpack. -/
import Derived.Test.YtlbihfbeamlacaaHbxbc
set_option linter.unusedSimpArgs false
set_option linter.unusedVariables false
set_option maxRecDepth 100000
set_option maxHeartbeats 6400000
namespace Go.Proofs.Ytlbihfbeamlacaa
open Go.RowKit
theorem unpF_len (F : Int→Int→Option ED) : ∀ (k : Nat) (u w : Int),(unpF F k u w).length≤2 ^ k
  | 0,_,_=>by simp [unpF]
  | k+1,u,w=>by
    have h1 : 1≤2 ^ k:=Nat.one_le_two_pow
    have h2 : 2 ^ (k+1)=2 ^ k+2 ^ k:=by rw [Nat.pow_succ]; omega
    unfold unpF
    cases F u w with
    | none=>simp only [List.length_cons,List.length_nil]; omega
    | some x =>
      dsimp only
      split
      · simp only [List.length_cons,List.length_nil]; omega
      · have:=unpF_len F k u x.v
        have:=unpF_len F k x.v w
        rw [List.length_append]; omega
def UnP (base : Nat) (W W' : World) (l : List Int) (r : Ending) : Prop:=∃ (A : Option Addr) (c : Nat),r = .returned (.slice A l.length c)∧Own base 3 1 ienc W' ⟨A,c,l⟩∧Below base W W'
section
variable {n : Nat} {es : List ED} {rk : Int→Int} {D : Int→Int→Int} {F : Int→Int→Option ED}
theorem hier_unpack (h : HOK n es rk D F) (hn : n≤10000) (base mb : Nat) (L : List ED) (hL : ∀ f t,lkE L f t=F f t) (hmb : mb<base) : ∀ (k : Nat) (u w : Int) (x : ED),F u w=some x→(rk u<k∨rk w<k) →
    ∀ (out : Sl Int) (W : World),Own base 3 1 ienc W out→MapE W mb L→base≤W.heap.size→out.l.length+2 ^ k≤100000 →
    Calls Try.prog 41 #[.map (some mb),.int .i64 u,.int .i64 w,.slice out.A out.l.length out.c] W fun r W'=>UnP base W W' (out.l ++ unpF F k u w) r
  | 0,u,w,x,hx,hk=>by
    have hr:=h.rng u w x hx
    have:=(h.lt u hr.1).1
    have:=(h.lt w hr.2).1
    omega
  | k+1,u,w,x,hx,hk=>by
    intro out W hown hmap hbase hlen
    have hr:=h.rng u w x hx
    have hI1 : I64 u:=by have:=hr.1; unfold Ir at this; unfold I64; omega
    have hI2 : I64 w:=by have:=hr.2; unfold Ir at this; unfold I64; omega
    have hl2 : lkE L u w=some x:=(hL u w).trans hx
    have h2k : 1≤2 ^ k:=Nat.one_le_two_pow
    have h2e : 2 ^ (k+1)=2 ^ k+2 ^ k:=by rw [Nat.pow_succ]; omega
    rw [h2e] at hlen
    obtain ⟨A,c,l⟩:=out
    simp only at hlen ⊢
    have hlt : l.length≤100000:=by omega
    have HO:=Lib.hid hown
    have HM:=Lib.hid hmap
    have HI1:=Lib.hid hI1
    have HI2:=Lib.hid hI2
    have HL2:=Lib.hid hl2
    have HBS:=Lib.hid hbase
    clear hown hmap hI1 hI2 hl2 h2e
    rcases h.inv.via u w x hx with ⟨h1,h2⟩ | ⟨h1,h2,h3,a,b,ha,hb,hab⟩
    · have HV : Hid (unpF F (k+1) u w=[w]):=Lib.hid (by unfold unpF; rw [hx]; simp only; rw [if_pos (by omega)])
      rw [HV.out]
      have hneg : x.v<0:=by omega
      clear h1 h2 hr
      have hfd : ∀ (a b c d : Int) (W : World),(Instr.field 44 (.agg #[.int .i64 a,.int .i64 b,.int .i64 c,.int .i64 d]) 3).run Try.prog W = .ok (.int .i64 d) W:=fun _ _ _ _ _=>by kernel_rfl
      go_enter Try.func41,Try.ntmps41
      go_wp2_with (first | (at_lookup; refine wpl_look_val rfl (.tmp 10) (.tmp 13) 52 rfl 44 x Try.underlying52 HM.out rfl rfl HI1.out HI2.out HL2.out ?_) | (at_builtin; apply Hid.out))
      refine Lib.hid ?_
      have hal : Below W.heap.size W (W.alloc (.cells #[.int .i64 w] 3)):=(Below.refl _ _).alloc (Nat.le_refl _) _
      have HG2 : Hid (Blk (W.alloc (.cells #[.int .i64 w] 3)) W.heap.size 3 #[.int .i64 w]):=Lib.hid (Blk.new _ _ _)
      have HO2:=Lib.hid (HO.out.below hal)
      have HW2 : Hid (Below base W (W.alloc (.cells #[.int .i64 w] 3))):=Lib.hid (hal.mono HBS.out)
      have hs2 : base≤(W.alloc (.cells #[.int .i64 w] 3)).heap.size:=Nat.le_trans HBS.out hal.size
      clear hal HO HM hfd
      generalize W.alloc (.cells #[.int .i64 w] 3)=w2 at *
      refine wpl_append_sl _ rfl (.tmp 18) (.tmp 20) _ rfl Try.underlying23 infoInt (by omega) ienc_k ienc_one ⟨A,c,l⟩ ⟨some ⟨W.heap.size,0,none⟩,1,[w]⟩ rfl rfl HO2.out (rd_int1 HG2.out) (by simp [maxLen]; omega) (by simp; omega) hs2 ?_
      intro A2 c2 w3 hown hg _
      simp only at hown hg
      have HO3:=Lib.hid hown
      have HW3:=Lib.hid (HW2.out.trans (below_of_grown hg hs2 (fun q hq=>(own_row HO2.out q hq).2.1)))
      clear hown hg HO2 HW2 HG2 hs2
      go_wp2_with fail
      go_ret
      exact ⟨A2,c2,by simp,HO3.out,HW3.out⟩
    · have HV : Hid (unpF F (k+1) u w=unpF F k u x.v ++ unpF F k x.v w):=Lib.hid (by conv=>lhs; unfold unpF; rw [hx]; simp only; rw [if_neg (by have:=h1.1; omega)])
      rw [HV.out,← List.append_assoc]
      have hpos : ¬ x.v<0:=by have:=h1.1; omega
      have ih1:=hier_unpack h hn base mb L hL hmb k u x.v a ha (.inr (by omega))
      have ih2:=hier_unpack h hn base mb L hL hmb k x.v w b hb (.inl (by omega))
      have IH1:=Lib.hid ih1
      have IH2:=Lib.hid ih2
      clear ih1 ih2 h1 h2 h3 ha hb hab hr
      have hfd : ∀ (a b c d : Int) (W : World),(Instr.field 44 (.agg #[.int .i64 a,.int .i64 b,.int .i64 c,.int .i64 d]) 3).run Try.prog W = .ok (.int .i64 d) W:=fun _ _ _ _ _=>by kernel_rfl
      go_enter Try.func41,Try.ntmps41
      go_wp2_with (at_lookup; refine wpl_look_val rfl (.tmp 10) (.tmp 13) 52 rfl 44 x Try.underlying52 HM.out rfl rfl HI1.out HI2.out HL2.out ?_)
      refine (IH1.out ⟨A,c,l⟩ W HO.out HM.out HBS.out (by simp only; omega)).mono ?_
      rintro r w1 ⟨A1,c1,rfl,ho,hb1⟩
      dsimp only at ho ⊢
      have hul : (l ++ unpF F k u x.v).length≤l.length+2 ^ k:=by
        rw [List.length_append]
        exact Nat.add_le_add_left (unpF_len F k u x.v) _
      obtain ⟨l1,hl1⟩ : ∃ X,l ++ unpF F k u x.v=X:=⟨_,rfl⟩
      rw [hl1] at ho hul ⊢
      have HL1:=Lib.hid hl1
      clear hl1
      have HO1:=Lib.hid ho
      have HM1:=Lib.hid (HM.out.below hb1 hmb)
      have HW1:=Lib.hid hb1
      have HS1 : Hid (base≤w1.heap.size):=Lib.hid (Nat.le_trans HBS.out hb1.size)
      have HN1 : Hid (l1.length+2 ^ k≤100000):=Lib.hid (by omega)
      clear ho hb1 HO HM hul hlen h2k hfd
      have HC:=Lib.hid (IH2.out ⟨A1,c1,l1⟩ w1 HO1.out HM1.out HS1.out HN1.out)
      clear IH1 IH2
      go_wp2_with fail
      refine HC.out.mono ?_
      rintro r w2 ⟨A2,c2,rfl,ho,hb2⟩
      have HO2:=Lib.hid ho
      have HW2:=Lib.hid (HW1.out.trans hb2)
      clear ho hb2 HO1 HM1 HW1 HC
      simp only at HO2 ⊢
      obtain ⟨l2,hl2⟩ : ∃ X,l1 ++ unpF F k x.v w=X:=⟨_,rfl⟩
      rw [hl2] at HO2 ⊢
      have HE : Hid (l ++ unpF F k u x.v ++ unpF F k x.v w=l2):=Lib.hid (by rw [HL1.out,hl2])
      clear hl2
      go_wp2_with fail
      go_ret
      exact ⟨A2,c2,by rw [HE.out]; rfl,by rw [HE.out]; exact HO2.out,HW2.out⟩
end
end Go.Proofs.Ytlbihfbeamlacaa
