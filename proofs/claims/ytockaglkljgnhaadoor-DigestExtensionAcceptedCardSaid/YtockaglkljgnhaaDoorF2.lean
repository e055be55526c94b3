/- The functions of the program as functions of Lean, with the proofs that they are. -/
import Derived.Test.YtockaglkljgnhaaDoorF1
import Derived.KernelRfl
set_option linter.unusedSimpArgs false
set_option linter.unusedVariables false
set_option linter.deprecated false
namespace Go.Ev.D
open Go Go.Proofs Go.Ev
noncomputable section
theorem mixed : Tryd.prog.follows .mixedOrders = true := by kernel_rfl
theorem envOk72 : EnvOk Tryd.prog env72 := by
  refine ⟨tabOk, fun f S h => ?_, fun f l S h => ?_, fun f fs I h => ?_⟩
  · simp only [env72] at h
    cases h
  · simp only [env72] at h
    cases h
  · simp only [env72] at h
    cases h
theorem full72 : Meets Tryd.prog glob 72 spec72 := meets72 envOk72 mixed
theorem envOk59 : EnvOk Tryd.prog env59 := by
  refine ⟨tabOk, fun f S h => ?_, fun f l S h => ?_, fun f fs I h => ?_⟩
  · simp only [env59] at h
    split at h
    · cases h; exact full72
    · cases h
  · simp only [env59] at h
    cases h
  · simp only [env59] at h
    cases h
theorem full59 : Meets Tryd.prog glob 59 spec59 := meets59 envOk59 mixed
theorem envOk40 : EnvOk Tryd.prog env40 := by
  refine ⟨tabOk, fun f S h => ?_, fun f l S h => ?_, fun f fs I h => ?_⟩
  · simp only [env40] at h
    split at h
    · cases h; exact full59
    · cases h
  · simp only [env40] at h
    cases h
  · simp only [env40] at h
    cases h
theorem full40 : Meets Tryd.prog glob 40 spec40 := meets40 envOk40 mixed
theorem envOk53 : EnvOk Tryd.prog env53 := by
  refine ⟨tabOk, fun f S h => ?_, fun f l S h => ?_, fun f fs I h => ?_⟩
  · simp only [env53] at h
    cases h
  · simp only [env53] at h
    cases h
  · simp only [env53] at h
    cases h
theorem full53 : Meets2 Tryd.prog glob 53 sp53 := meets53 envOk53 mixed
theorem envOk54 : EnvOk Tryd.prog env54 := by
  refine ⟨tabOk, fun f S h => ?_, fun f l S h => ?_, fun f fs I h => ?_⟩
  · simp only [env54] at h
    cases h
  · simp only [env54] at h
    cases h
  · simp only [env54] at h
    cases h
theorem full54 : Meets2 Tryd.prog glob 54 sp54 := meets54 envOk54 mixed
theorem envOk66 : EnvOk Tryd.prog env66 := by
  refine ⟨tabOk, fun f S h => ?_, fun f l S h => ?_, fun f fs I h => ?_⟩
  · simp only [env66] at h
    cases h
  · simp only [env66] at h
    cases h
  · simp only [env66] at h
    cases h
theorem fullI66 : IterOk Tryd.prog glob 66 I66 := iter66 envOk66 mixed
theorem envOk77 : EnvOk Tryd.prog env77 := by
  refine ⟨tabOk, fun f S h => ?_, fun f l S h => ?_, fun f fs I h => ?_⟩
  · simp only [env77] at h
    cases h
  · simp only [env77] at h
    cases h
  · simp only [env77] at h
    cases h
theorem full77 : Meets Tryd.prog glob 77 spec77 := meets77 envOk77 mixed
theorem envOk68 : EnvOk Tryd.prog env68 := by
  refine ⟨tabOk, fun f S h => ?_, fun f l S h => ?_, fun f fs I h => ?_⟩
  · simp only [env68] at h
    split at h
    · cases h; exact full77
    · cases h
  · simp only [env68] at h
    cases h
  · simp only [env68] at h
    cases h
theorem full68 : Meets Tryd.prog glob 68 spec68 := meets68 envOk68 mixed
theorem envOk67 : EnvOk Tryd.prog env67 := by
  refine ⟨tabOk, fun f S h => ?_, fun f l S h => ?_, fun f fs I h => ?_⟩
  · simp only [env67] at h
    split at h
    · cases h; exact full68
    · cases h
  · simp only [env67] at h
    cases h
  · simp only [env67] at h
    cases h
theorem full67 : Meets2 Tryd.prog glob 67 sp67 := meets67 envOk67 mixed
theorem envOk55 : EnvOk Tryd.prog env55 := by
  refine ⟨tabOk, fun f S h => ?_, fun f l S h => ?_, fun f fs I h => ?_⟩
  · simp only [env55] at h
    split at h
    · cases h; exact full68
    · cases h
  · simp only [env55] at h
    split at h
    · cases h; exact full67
    · cases h
  · simp only [env55] at h
    cases h
theorem full55 : Meets2 Tryd.prog glob 55 sp55 := meets55 envOk55 mixed
theorem envOk56 : EnvOk Tryd.prog env56 := by
  refine ⟨tabOk, fun f S h => ?_, fun f l S h => ?_, fun f fs I h => ?_⟩
  · simp only [env56] at h
    cases h
  · simp only [env56] at h
    cases h
  · simp only [env56] at h
    cases h
theorem full56 : Meets Tryd.prog glob 56 spec56 := meets56 envOk56 mixed
theorem envOk30 : EnvOk Tryd.prog env30 := by
  refine ⟨tabOk, fun f S h => ?_, fun f l S h => ?_, fun f fs I h => ?_⟩
  · simp only [env30] at h
    split at h
    · cases h; exact full56
    · cases h
  · simp only [env30] at h
    split at h
    · cases h; exact full54
    · cases h; exact full55
    · cases h
  · simp only [env30] at h
    cases h
theorem full30 : Meets Tryd.prog glob 30 spec30 := meets30 envOk30 mixed fullI66
theorem envOk64 : EnvOk Tryd.prog env64 := by
  refine ⟨tabOk, fun f S h => ?_, fun f l S h => ?_, fun f fs I h => ?_⟩
  · simp only [env64] at h
    split at h
    · cases h; exact full30
    · cases h; exact full65
    · cases h
  · simp only [env64] at h
    cases h
  · simp only [env64] at h
    cases h
theorem full64 : Meets2 Tryd.prog glob 64 sp64 := meets64 envOk64 mixed
theorem envOk29 : EnvOk Tryd.prog env29 := by
  refine ⟨tabOk, fun f S h => ?_, fun f l S h => ?_, fun f fs I h => ?_⟩
  · simp only [env29] at h
    cases h
  · simp only [env29] at h
    split at h
    · cases h; exact full53
    · cases h; exact full64
    · cases h
  · simp only [env29] at h
    cases h
theorem full29 : Meets Tryd.prog glob 29 spec29 := meets29 envOk29 mixed
theorem envOk32 : EnvOk Tryd.prog env32 := by
  refine ⟨tabOk, fun f S h => ?_, fun f l S h => ?_, fun f fs I h => ?_⟩
  · simp only [env32] at h
    cases h
  · simp only [env32] at h
    split at h
    · cases h; exact full53
    · cases h; exact full64
    · cases h
  · simp only [env32] at h
    cases h
theorem full32 : Meets Tryd.prog glob 32 spec32 := meets32 envOk32 mixed
theorem envOk44 : EnvOk Tryd.prog env44 := by
  refine ⟨tabOk, fun f S h => ?_, fun f l S h => ?_, fun f fs I h => ?_⟩
  · simp only [env44] at h
    cases h
  · simp only [env44] at h
    cases h
  · simp only [env44] at h
    cases h
theorem full44 : Meets2 Tryd.prog glob 44 sp44 := meets44 envOk44 mixed
theorem envOk60 : EnvOk Tryd.prog env60 := by
  refine ⟨tabOk, fun f S h => ?_, fun f l S h => ?_, fun f fs I h => ?_⟩
  · simp only [env60] at h
    cases h
  · simp only [env60] at h
    cases h
  · simp only [env60] at h
    cases h
theorem fullI60 : IterOk Tryd.prog glob 60 I60 := iter60 envOk60 mixed
theorem envOk19 : EnvOk Tryd.prog env19 := by
  refine ⟨tabOk, fun f S h => ?_, fun f l S h => ?_, fun f fs I h => ?_⟩
  · simp only [env19] at h
    split at h
    · cases h; exact full29
    · cases h; exact full30
    · cases h; exact full32
    · cases h
  · simp only [env19] at h
    split at h
    · cases h; exact full44
    · cases h
  · simp only [env19] at h
    cases h
theorem full19 : Meets Tryd.prog glob 19 spec19 := meets19 envOk19 mixed fullI60
theorem envOk14 : EnvOk Tryd.prog env14 := by
  refine ⟨tabOk, fun f S h => ?_, fun f l S h => ?_, fun f fs I h => ?_⟩
  · simp only [env14] at h
    split at h
    · cases h; exact full19
    · cases h; exact full40
    · cases h
  · simp only [env14] at h
    cases h
  · simp only [env14] at h
    split at h
    · cases h; exact inOk41
    · cases h
theorem full14 : Meets Tryd.prog glob 14 spec14 := meets14 envOk14 mixed
theorem envOk16 : EnvOk Tryd.prog env16 := by
  refine ⟨tabOk, fun f S h => ?_, fun f l S h => ?_, fun f fs I h => ?_⟩
  · simp only [env16] at h
    split at h
    · cases h; exact full19
    · cases h; exact full40
    · cases h
  · simp only [env16] at h
    cases h
  · simp only [env16] at h
    split at h
    · cases h; exact inOk41
    · cases h
theorem full16 : Meets Tryd.prog glob 16 spec16 := meets16 envOk16 mixed
theorem envOk39 : EnvOk Tryd.prog env39 := by
  refine ⟨tabOk, fun f S h => ?_, fun f l S h => ?_, fun f fs I h => ?_⟩
  · simp only [env39] at h
    cases h
  · simp only [env39] at h
    cases h
  · simp only [env39] at h
    cases h
theorem full39 : Meets Tryd.prog glob 39 spec39 := meets39 envOk39 mixed
theorem envOk51 : EnvOk Tryd.prog env51 := by
  refine ⟨tabOk, fun f S h => ?_, fun f l S h => ?_, fun f fs I h => ?_⟩
  · simp only [env51] at h
    cases h
  · simp only [env51] at h
    cases h
  · simp only [env51] at h
    cases h
theorem full51 : Meets Tryd.prog glob 51 spec51 := meets51 envOk51 mixed
theorem envOk61 : EnvOk Tryd.prog env61 := by
  refine ⟨tabOk, fun f S h => ?_, fun f l S h => ?_, fun f fs I h => ?_⟩
  · simp only [env61] at h
    split at h
    · cases h; exact full51
    · cases h
  · simp only [env61] at h
    cases h
  · simp only [env61] at h
    cases h
theorem full61 : Meets2 Tryd.prog glob 61 sp61 := meets61 envOk61 mixed
theorem envOk73 : EnvOk Tryd.prog env73 := by
  refine ⟨tabOk, fun f S h => ?_, fun f l S h => ?_, fun f fs I h => ?_⟩
  · simp only [env73] at h
    cases h
  · simp only [env73] at h
    split at h
    · cases h; exact full61
    · cases h
  · simp only [env73] at h
    cases h
theorem full73 : Meets2 Tryd.prog glob 73 sp73 := meets73 envOk73 mixed
theorem envOk62 : EnvOk Tryd.prog env62 := by
  refine ⟨tabOk, fun f S h => ?_, fun f l S h => ?_, fun f fs I h => ?_⟩
  · simp only [env62] at h
    cases h
  · simp only [env62] at h
    split at h
    · cases h; exact full73
    · cases h
  · simp only [env62] at h
    cases h
theorem full62 : Meets2 Tryd.prog glob 62 sp62 := meets62 envOk62 mixed
theorem envOk45 : EnvOk Tryd.prog env45 := by
  refine ⟨tabOk, fun f S h => ?_, fun f l S h => ?_, fun f fs I h => ?_⟩
  · simp only [env45] at h
    cases h
  · simp only [env45] at h
    split at h
    · cases h; exact full62
    · cases h
  · simp only [env45] at h
    cases h
theorem full45 : Meets Tryd.prog glob 45 spec45 := meets45 envOk45 mixed
theorem envOk46 : EnvOk Tryd.prog env46 := by
  refine ⟨tabOk, fun f S h => ?_, fun f l S h => ?_, fun f fs I h => ?_⟩
  · simp only [env46] at h
    cases h
  · simp only [env46] at h
    cases h
  · simp only [env46] at h
    cases h
theorem full46 : Meets Tryd.prog glob 46 spec46 := meets46 envOk46 mixed
theorem envOk47 : EnvOk Tryd.prog env47 := by
  refine ⟨tabOk, fun f S h => ?_, fun f l S h => ?_, fun f fs I h => ?_⟩
  · simp only [env47] at h
    cases h
  · simp only [env47] at h
    cases h
  · simp only [env47] at h
    cases h
theorem full47 : Meets2 Tryd.prog glob 47 sp47 := meets47 envOk47 mixed
theorem envOk63 : EnvOk Tryd.prog env63 := by
  refine ⟨tabOk, fun f S h => ?_, fun f l S h => ?_, fun f fs I h => ?_⟩
  · simp only [env63] at h
    cases h
  · simp only [env63] at h
    cases h
  · simp only [env63] at h
    cases h
theorem fullI63 : IterOk Tryd.prog glob 63 I63 := iter63 envOk63 mixed
theorem envOk48 : EnvOk Tryd.prog env48 := by
  refine ⟨tabOk, fun f S h => ?_, fun f l S h => ?_, fun f fs I h => ?_⟩
  · simp only [env48] at h
    split at h
    · cases h; exact full32
    · cases h
  · simp only [env48] at h
    cases h
  · simp only [env48] at h
    cases h
theorem full48 : Meets Tryd.prog glob 48 spec48 := meets48 envOk48 mixed
theorem envOk21 : EnvOk Tryd.prog env21 := by
  refine ⟨tabOk, fun f S h => ?_, fun f l S h => ?_, fun f fs I h => ?_⟩
  · simp only [env21] at h
    split at h
    · cases h; exact full29
    · cases h; exact full40
    · cases h; exact full45
    · cases h; exact full46
    · cases h; exact full48
    · cases h
  · simp only [env21] at h
    split at h
    · cases h; exact full47
    · cases h
  · simp only [env21] at h
    cases h
theorem full21 : Meets Tryd.prog glob 21 spec21 := meets21 envOk21 mixed fullI63
theorem envOk23 : EnvOk Tryd.prog env23 := by
  refine ⟨tabOk, fun f S h => ?_, fun f l S h => ?_, fun f fs I h => ?_⟩
  · simp only [env23] at h
    split at h
    · cases h; exact full30
    · cases h; exact full40
    · cases h; exact full45
    · cases h; exact full46
    · cases h; exact full48
    · cases h; exact full51
    · cases h
  · simp only [env23] at h
    split at h
    · cases h; exact full47
    · cases h
  · simp only [env23] at h
    cases h
theorem full23 : Meets Tryd.prog glob 23 spec23 := meets23 envOk23 mixed fullI63
theorem envOk12 : EnvOk Tryd.prog env12 := by
  refine ⟨tabOk, fun f S h => ?_, fun f l S h => ?_, fun f fs I h => ?_⟩
  · simp only [env12] at h
    split at h
    · cases h; exact full14
    · cases h; exact full16
    · cases h; exact full19
    · cases h; exact full21
    · cases h; exact full23
    · cases h; exact full30
    · cases h; exact full39
    · cases h
  · simp only [env12] at h
    cases h
  · simp only [env12] at h
    cases h
theorem full12 : Meets Tryd.prog glob 12 spec12 := meets12 envOk12 mixed
theorem envOk13 : EnvOk Tryd.prog env13 := by
  refine ⟨tabOk, fun f S h => ?_, fun f l S h => ?_, fun f fs I h => ?_⟩
  · simp only [env13] at h
    cases h
  · simp only [env13] at h
    cases h
  · simp only [env13] at h
    cases h
theorem full13 : Meets Tryd.prog glob 13 spec13 := meets13 envOk13 mixed
theorem envOk25 : EnvOk Tryd.prog env25 := by
  refine ⟨tabOk, fun f S h => ?_, fun f l S h => ?_, fun f fs I h => ?_⟩
  · simp only [env25] at h
    cases h
  · simp only [env25] at h
    cases h
  · simp only [env25] at h
    cases h
theorem full25 : Meets Tryd.prog glob 25 spec25 := meets25 envOk25 mixed
theorem envOk5 : EnvOk Tryd.prog env5 := by
  refine ⟨tabOk, fun f S h => ?_, fun f l S h => ?_, fun f fs I h => ?_⟩
  · simp only [env5] at h
    split at h
    · cases h; exact full12
    · cases h; exact full13
    · cases h; exact full14
    · cases h; exact full19
    · cases h; exact full21
    · cases h; exact full25
    · cases h
  · simp only [env5] at h
    cases h
  · simp only [env5] at h
    cases h
theorem full5 : Meets Tryd.prog glob 5 spec5 := meets5 envOk5 mixed
theorem envOk6 : EnvOk Tryd.prog env6 := by
  refine ⟨tabOk, fun f S h => ?_, fun f l S h => ?_, fun f fs I h => ?_⟩
  · simp only [env6] at h
    split at h
    · cases h; exact full12
    · cases h; exact full13
    · cases h; exact full16
    · cases h; exact full19
    · cases h; exact full23
    · cases h; exact full25
    · cases h
  · simp only [env6] at h
    cases h
  · simp only [env6] at h
    cases h
theorem full6 : Meets Tryd.prog glob 6 spec6 := meets6 envOk6 mixed
end
end Go.Ev.D
