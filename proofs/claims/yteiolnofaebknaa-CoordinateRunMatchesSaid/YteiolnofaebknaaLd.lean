/- Contracts of the channel's functions. -/
import Derived.Test.YteiolnofaebknaaLa
import Derived.Test.YteiolnofaebknaaAbG
set_option linter.unusedSimpArgs false
set_option linter.unusedVariables false
set_option maxRecDepth 20000
set_option maxHeartbeats 2000000
namespace Go.Ab
open Go.Proofs
abbrev tChoice:Ty:=.pair tI (.pair tI (.pair (.int .u8) tI))
abbrev tPar:Ty:=.pair tI (.pair tI tChoice)
def linkS (F:List Int) (now sent:Int) (N n:Nat) (q:List tPar.den):StS:=
 ⟨[{ cells:=[.arr 256 tI F,.p (iv now),.p (iv sent),.ptr 1 0],e:=103,fz:=false },{ cells:=[.ms 2 0 6 none n],e:=100,fz:=false },{ cells:=[.arr N tPar q],e:=97,fz:=false,ap:=true }],[]⟩
def fatesM (l:List Int):List Int:=l ++ List.replicate (256 - l.length) 0
theorem wrong_len {l:List Int} (h:wrongM l=0):l.length≤256:=by
 unfold wrongM at h
 split at h
 ·cases h
 ·omega
theorem cp_fates {l:List Int} (h:l.length≤256) (z:List Int) (hz:z=List.replicate 256 0):cpR tI 256 z 0 l (min l.length 256)=fatesM l:=by
 subst hz
 have e:tI.norm 256 (List.replicate 256 (0:Int))=List.replicate 256 (0:Int):=Ty.norm_eq tI (by simp)
 unfold cpR fatesM
 rw[e,Nat.min_eq_left h,List.take_length]
 simp only[List.take_zero,List.nil_append,Nat.zero_add,List.drop_replicate]
theorem cNew (nl:Option Bool) (l:List Int) (hl:wrongM l=0):FnS Try.prog 46 ([injT (.sl tI) (nl,l)]) (⟨[],[]⟩) fun x_ s_=>x_=(.tup [.ptr 0 0,.p (iv 0)])∧s_=(linkS (fatesM l) 0 0 0 0 []):=by
 refine FnS.of (S:=[(56,_)]) (T:=[]) (U:=[]) (tbl:=[]) (n:=22) hm33 cfg (.cons (spT1.ok (a:=(.sl (.int .i64))) fun x0 h=>c30 x0.1 x0.2 h) .nil) .nil .nil .nil 0 Try.call46 Try.func46 (ac46_ok (some (0,0))) (by rw[Try.ntmps46];exact Nat.le_refl _) rfl _ _ _ (by rfl) ?_
 intro cmp ar cv tn ic ai mx an ad ml sb mn ln em gt up ap sc vw cp rp p1 p2 s1 s2 X Y hX hY r0 r1 r2 r3 r4 r5 r6 r7 r8 r9 r10 r11 r12 r13 r14 r15 r16 r17 r18 r19 r20 r21 r22 r23 r24
 generalize hg0:wrongM=g0
 generalize hg1:fatesM=g1
 cbv
 have hl':=wrong_len hl
 repeat' (first | exact True.intro | refine And.intro ?_ ?_ | (refine BR.mk ?_ ?_ <;> intro _) | (refine CASE.mk ?_;intro _))
 all_goals try (refine RET.mk ⟨[some 2,some 1,some 0],[],?_⟩;rw[SIM_iff];cbv)
 ·subst_vars;rw[Short_iff];omega
 ·subst_vars;simp[cmpR,hl]at *
 ·subst_vars;rw[LEN_iff];dsimp only;omega
 ·subst_vars;exact ⟨⟨⟨cp_fates hl' _ rfl,trivial⟩,trivial⟩,trivial⟩
end Go.Ab
