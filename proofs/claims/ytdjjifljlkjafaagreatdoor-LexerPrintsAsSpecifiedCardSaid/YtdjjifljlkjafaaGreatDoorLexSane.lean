/- The lexer on the examples of its documentation. Conditions: none. -/
import Derived.Test.YtdjjifljlkjafaaGreatDoorLexWalkH
import Derived.KernelRfl
namespace Go.Proofs.YtdjjifljlkjafaaGreatDoor
open Go Go.Proofs

def srcA : ByteArray := ⟨#[97, 45, 62, 98, 49, 32, 49, 50, 46, 46, 51, 32, 35, 32, 120]⟩
def toksA : List Tok := [⟨1, 0, ⟨#[97]⟩, 0⟩, ⟨4, 1, ⟨#[45, 62]⟩, 0⟩, ⟨1, 3, ⟨#[98, 49]⟩, 0⟩, ⟨2, 6, ⟨#[]⟩, 12⟩, ⟨4, 8, ⟨#[46, 46]⟩, 0⟩, ⟨2, 10, ⟨#[]⟩, 3⟩, ⟨5, 15, ⟨#[]⟩, 0⟩]
theorem readA : tokensP srcA = .ok toksA := by kernel_rfl
def srcB : ByteArray := ⟨#[34, 97, 92, 34, 92, 110, 34]⟩
def toksB : List Tok := [⟨3, 0, ⟨#[97, 34, 10]⟩, 0⟩, ⟨5, 7, ⟨#[]⟩, 0⟩]
theorem readB : tokensP srcB = .ok toksB := by kernel_rfl
def srcC : ByteArray := ⟨#[61, 61, 61, 32, 33, 61, 61]⟩
def toksC : List Tok := [⟨4, 0, ⟨#[61, 61]⟩, 0⟩, ⟨4, 2, ⟨#[61]⟩, 0⟩, ⟨4, 4, ⟨#[33, 61]⟩, 0⟩, ⟨4, 6, ⟨#[61]⟩, 0⟩, ⟨5, 7, ⟨#[]⟩, 0⟩]
theorem readC : tokensP srcC = .ok toksC := by kernel_rfl
theorem readD : tokensP ⟨#[120, 32, 48, 49, 50]⟩ = .err 2 27 := by kernel_rfl
theorem readE : tokensP ⟨#[120, 32, 51, 121]⟩ = .err 2 27 := by kernel_rfl
theorem readF : tokensP ⟨#[34, 97]⟩ = .err 0 28 := by kernel_rfl
theorem readG : tokensP ⟨#[120, 32, 36]⟩ = .err 2 26 := by kernel_rfl
end Go.Proofs.YtdjjifljlkjafaaGreatDoor
