/- Part of the proof: SxIoA. -/
import Derived.Test.YtlmcdbgcbmjilaaSxIo
import Derived.Test.YtlmcdbgcbmjilaaSxWord
namespace Go.Proofs.Ytlmcdbgcbmjilaa
theorem io_word : behindMainWord (wordsSigns Try.prog.initOrder.toList) = io3 :: wordsSigns io4 := by rw [io_words, io_main]
theorem io_strip : stripLifts liftWords (io3 :: wordsSigns io4) = ([], io3 :: wordsSigns io4) := Sx.strip_none (by kernel_rfl)
theorem prog_make : Try.prog.make = some .cut := Sx.make_of io_word (by kernel_rfl) (by kernel_rfl)
theorem prog_lifts : Try.prog.liftsFinal = false := Sx.lifts_of io_word io_strip (by kernel_rfl)
theorem prog_later : Try.prog.laysLater = false := by kernel_rfl
theorem prog_refl : Try.prog.bearsReflect = false := by kernel_rfl
theorem prog_door : Try.prog.doorFits [] = true := by kernel_rfl
theorem prog_mayEnter : Try.prog.mayEnter = true := Sx.mayEnter_of io_word io_strip (by kernel_rfl) prog_later prog_refl prog_door
end Go.Proofs.Ytlmcdbgcbmjilaa
