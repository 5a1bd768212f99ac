/-
  A SECTOR'S STATE in this program: what is told of its test is what the program does.
-/
import Derived.Test.YtihmdaifbmchjaaGreatAmF
import Derived.Test.YtihmdaifbmchjaaGreatPFacts
set_option linter.unusedVariables false
set_option linter.unusedSimpArgs false
set_option maxRecDepth 100000
namespace Go.Am
open Go.Proofs
theorem cIs {K:Xs} (hk:K 56=none):zod Tryz.prog K 56 xIs:=by
 refine zfv hk ?_
 intro args h v h' hwf hg
 unfold xIs at hg
 split at hg
 rotate_left
 ·simp at hg
 rename_i b off i s
 split at hg
 rotate_left
 ·simp at hg
 rename_i cs el ro hb
 split at hg
 rotate_left
 ·simp at hg
 rename_i x hx
 obtain⟨hc,hg2⟩:=za5 hg
 clear hg
 rw[Nat.blt_eq] at hc
 simp only[Option.some.injEq,Prod.mk.injEq] at hg2
 obtain⟨rfl,rfl⟩:=hg2
 rw[zcR hk Tryz.func56 (c:=_) rfl]
 have h1:(i:Int) < 1024:=by omega
 have hcb:zdb cs (off+i)=some (.int .u8 x):=hx
 simp[Tryz.f56,aOp,zap,h1,hb,hcb,zbn,zbt]
 cases hq:Nat.beq x s with
 | true=>
   have:=Nat.eq_of_beq_eq_true hq
   simp[this]
 | false=>
   have hne:¬x=s:=fun q=>by rw[q,Nat.beq_refl] at hq; cases hq
   simp[hne]
   omega
end Go.Am
